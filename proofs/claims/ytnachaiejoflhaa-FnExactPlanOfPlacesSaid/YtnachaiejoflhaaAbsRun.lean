/- Own text. -/
import Derived.Test.YtnachaiejoflhaaAbsOps
set_option linter.unusedVariables false
set_option linter.unusedSimpArgs false
namespace Go.Abs
open Go
inductive Ex where
 | normal
 | exit (id:Nat)
 | ret
def Qn (lo hi:Nat):Hp→Bool
 | []=>true
 | (k,_) :: r=>decide (lo≤k)&&decide (k<hi)&&Qn (k+1) hi r
def Qv (gone:List Nat) (sl:Sl):Sl:=match gone with
 | []=>sl
 | _=>Zdt (kill gone) sl
def X2 (gone:List Nat) (hp:Hp):Hp:=match gone with
 | []=>hp
 | _=>Zdt (QC gone) hp
def Zh (sl:Sl) (dst:Option Nat) (v:AV):Sl:=match dst with
 | some t=>ins sl t v
 | none=>sl
def Zb.on (e:Zb) (dst:Option Nat) (sl:Sl) (hp:Hp):Sl×Hp:=
 (Zh (Qv e.gone sl) dst e.eff.val,e.eff.on (X2 e.gone hp))
def Xd (base:Nat) (dst:Option Nat) (sl:Sl) (hp:Hp) (e:Option Zb):Option (Sl×Hp):=
 bnd e fun e=>if Qn base (base+64) e.eff.adds then some (e.on dst sl hp) else none
def JO (want:Bool):AV→Option Bool
 | .d (.bool b)=>some (b==want)
 | .tup []=>some false
 | _=>none
def ZD (sl:Sl):Option (Nat×Bool)→Option Bool
 | none=>some true
 | some q=>JO q.2 (gs sl q.1)
inductive Zy where
 | skip
 | region (n:Nat) (draw:Option (List (Nat×Nat))) (ops:List CO)
 | seq (a b:Zy)
 | cond (c:Opd) (a b:Zy)
 | block (id:Nat) (c:Zy)
 | loop (c:Zy)
 | exit (id:Nat)
 | ret
 | keep (K:List Nat) (c:Zy)
 | stuck
 | link (fl:Bool) (id:Nat) (i:Opd) (j:Nat) (c:Zy)
 | melt (c:Zy)
inductive Zhw where
 | tmp (t:Nat)
 | cell (a:Nat) (g:Bool) (s:Nat)
structure ZR where
 nt:Nat
 res:List Zhw
 body:Zy
def Zml (x:Option Opd):List Opd:=match x with
 | some y=>[y]
 | none=>[]
def Zq:COp→List Opd
 | .move x=>[x]
 | .assign _ x=>[x]
 | .pick c a b=>[c,a,b]
 | .alloc _ _=>[]
 | .box x=>[x]
 | .build _ ps=>ps.map fun q=>q.2.2
 | .buildSl _ xs=>xs
 | .load _ _ a=>[a]
 | .store _ _ a x=>[a,x]
 | .nilCheck x=>[x]
 | .bin _ _ x y=>[x,y]
 | .un _ x=>[x]
 | .eqA _ _ x y=>[x,y]
 | .convI _ x=>[x]
 | .convS x=>[x]
 | .fn _ cs=>cs
 | .make _ _ _ l c=>[l,c]
 | .slice _ x lo hi=>x :: (Zml lo++Zml hi)
 | .sliceS x lo hi=>x :: (Zml lo++Zml hi)
 | .slice0 x hi mx=>[x,hi,mx]
 | .shift _ x=>[x]
 | .part _ _ _ x=>[x]
 | .iaS _ x i=>[x,i]
 | .iaA _ _ x i=>[x,i]
 | .ixS x i=>[x,i]
 | .ixA _ _ _ x i=>[x,i]
 | .nth _ x=>[x]
 | .len x=>[x]
 | .lenS x=>[x]
 | .append _ _ _ _ x y=>[x,y]
 | .min x y=>[x,y]
 | .max x y=>[x,y]
 | .call f as=>f :: as
 | .slice3 _ x lo hi mx=>[x,lo,hi,mx]
 | .clear _ _ x=>[x]
 | .stuck=>[]
 | .buildT _ _ xs=>xs
 | .appT _ _ _ x y=>[x,y]
 | .asgT _ _ x=>[x]
 | .makeT _ _ _ _ l c=>[l,c]
def Zbn:COp→Bool
 | .store _ _ _ _=>true
 | _=>false
def isApp:COp→Bool
 | .append _ _ _ _ _ _=>true
 | _=>false
def Zgn (c:COp):Bool:=Zbn c || isApp c
def CO.starts (o:CO):Bool:=Zbn o.op || o.tl
def Zz (os:List CO) (i:Nat):Bool:=match os[i]? with
 | some o=>CO.starts o
 | none=>false
def Wr:Opd→List Nat
 | .t n=>[n]
 | _=>[]
def Zgo:Option (Nat×Bool)→List Nat
 | some q=>[q.1]
 | none=>[]
def Xn (o:CO):List Nat:=(Zq o.op).flatMap Wr++Zgo o.guard
def Qe:Option Nat→List Nat→Bool
 | some d,l=>!l.contains d
 | none,_=>true
def VS:Option Nat→Option Nat→Bool
 | some d,some e=>d != e
 | _,_=>true
def QI (a b:CO):Bool:=Qe a.dst (Xn b)&&VS a.dst b.dst&&Qe b.dst (Xn a)
def Xq:Opd→Bool
 | .v a=>(Zl a).isEmpty&&!Zh0 a
 | _=>true
def ZjF (os:List CO) (j i:Nat):Bool:=match os[j]?,os[i]? with
 | some a,some b=>QI a b
 | _,_=>false
def Yg:COp→Bool
 | .load _ _ _=>false
 | .store _ _ _ _=>false
 | .slice _ _ _ _=>false
 | .slice0 _ _ _=>false
 | .iaS _ _ _=>false
 | .len _=>false
 | .append _ _ _ _ _ _=>false
 | .buildSl _ _=>false
 | .buildT _ _ _=>false
 | .appT _ _ _ _ _=>false
 | .asgT _ _ _=>false
 | .makeT _ _ _ _ _ _=>false
 | .call _ _=>false
 | .slice3 _ _ _ _ _=>false
 | .clear _ _ _=>false
 | _=>true
def Vq:COp→Bool
 | .load _ _ _=>true
 | .slice _ _ _ _=>true
 | .slice0 _ _ _=>true
 | .iaS _ _ _=>true
 | .len _=>true
 | _=>false
def Zmm:COp→Bool
 | .clear _ _ _=>false
 | .store _ _ _ _=>false
 | .append _ _ _ _ _ _=>false
 | .buildSl _ _=>false
 | .buildT _ _ _=>false
 | .appT _ _ _ _ _=>false
 | .asgT _ _ _=>false
 | .makeT _ _ _ _ _ _=>false
 | .call _ _=>false
 | _=>true
def Y5 (os:List CO) (k:Nat):Option Nat:=match os[k]? with
 | some o=>o.dst
 | none=>none
def ZjG (os:List CO) (k:Nat):List Nat:=match os[k]? with
 | some o=>Xn o
 | none=>[]
def Ws (os:List CO) (k:Nat):Bool:=(List.range os.length).all fun q=>decide (q<k) || Qe (Y5 os q) (ZjG os k)
def Xu:COp→Bool
 | .move _=>true
 | _=>false
def JP:COp→Bool
 | .append _ _ _ _ _ _=>true
 | .buildSl _ _=>true
 | _=>false
def V4:COp→Bool
 | .call (.f _) _=>true
 | _=>false
def ZdN:COp→List Opd
 | .call _ as=>as
 | _=>[]
def Zmn:COp→Bool
 | .alloc _ _=>false
 | .box _=>false
 | .assign _ _=>false
 | .make _ _ _ _ _=>false
 | .fn _ _=>false
 | _=>true
def Zix:COp→Bool
 | .buildSl _ _=>true
 | _=>false
def UQ:AV→Bool
 | .d _=>true
 | .nil=>true
 | .nilp=>true
 | .nili=>true
 | _=>false
def XI:List AV→Bool
 | []=>true
 | c :: r=>UQ c&&XI r
def Zfh:COp→Bool
 | .alloc _ cs=>XI cs
 | _=>false
def Zgp (c:COp):Bool:=Vq c || Zix c || (Yg c&&Zmn c) || Zfh c
def Zc2:COp→Bool
 | .alloc _ cs=>XI cs
 | .buildSl _ _=>true
 | .load _ _ _=>true
 | .nilCheck _=>true
 | .bin _ _ _ _=>true
 | .un _ _=>true
 | .convI _ _=>true
 | .shift _ _=>true
 | .iaS _ _ _=>true
 | .slice _ _ _ _=>true
 | .len _=>true
 | .sliceS _ _ _=>true
 | .lenS _=>true
 | _=>false
def ZqV:Option Nat→Bool
 | some _=>true
 | none=>false
def ZeT (os:List CO) (k:Nat):Bool:=ZqV (Y5 os k)&&(List.range os.length).all fun q=>q==k || VS (Y5 os q) (Y5 os k)
def Zc3 (os:List CO) (j i:Nat):Bool:=Ws os j&&Ws os i
def Zpw (os:List CO) (j i:Nat) (a b:COp):Bool:=
 Zmm b || (Zgn b&&(Yg a || (!Xu a&&Vq a&&Zc3 os j i))) || (Xu a&&(JP b || ZeT os j)) || (!Xu a&&V4 b&&Zgp a&&Zc3 os j i&&ZeT os j)
def Zpx (os:List CO) (j i:Nat) (a b:COp):Bool:=(Xu b&&ZeT os i) || (!Xu b&&V4 a&&Zc2 b&&Zc3 os j i&&ZeT os i)
def ZjH (os:List CO) (j i:Nat):Bool:=match os[j]?,os[i]? with
 | some a,some b=>if Zz os j then !Zz os i&&Zpx os j i a.op b.op else !Zz os i || Zpw os j i a.op b.op
 | _,_=>false
def JQ (os:List CO) (j i:Nat):Option (Nat×Nat):=match os[j]?,os[i]? with
 | some a,some b=>if Zz os j then (if Xu b.op || V4 a.op then some (i,j) else none) else
   if Zz os i&&(if Zgn b.op then !(Yg a.op) else if Xu a.op then !(JP b.op) else V4 b.op) then some (j,i) else none
 | _,_=>none
def optP:Option (Nat×Nat)→List (Nat×Nat)
 | some p=>[p]
 | none=>[]
def W9 (ops:Array Oper) (os:List CO):List (Nat×Nat):=
 (List.range ops.size).flatMap fun i=>(List.range i).flatMap fun j=>if Zca ops 6 i j then [] else optP (JQ os j i)
def Zgq (ops:Array Oper) (os:List CO):Bool:=
 (List.range ops.size).all (fun i=>(X0 ops i).all fun e=>decide (e<i)) &&
 (List.range ops.size).all (fun i=>(List.range i).all fun j=>(X0 ops i).contains j || ZjF os j i) &&
 (List.range ops.size).all (fun i=>(List.range i).all fun j=>Zca ops 6 i j || ZjH os j i) &&
 os.all (fun o=>(Zq o.op).all Xq)
def Ua (id:Nat):AV→Bool
 | .d _=>true
 | .pim _=>true
 | .nil=>true
 | .ptr k _=>k != id
 | .prow k _ _ _=>k != id
 | .own k=>k != id
 | .ownv k _ _=>k != id
 | .nilp=>true
 | .nili=>true
 | .tup []=>true
 | _=>false
def okC:AV→Bool
 | .d _=>true
 | .pim _=>true
 | .nil=>true
 | .ptr _ _=>true
 | .prow _ _ _ _=>true
 | .own _=>true
 | .ownv _ _ _=>true
 | .nilp=>true
 | .nili=>true
 | _=>false
def ZjI:List AV→Bool
 | []=>true
 | v :: r=>okC v&&ZjI r
def okV:AV→Bool
 | .agg cs=>ZjI cs
 | .tup []=>true
 | v=>okC v
def okL (sl:Sl):List Opd→Bool
 | []=>true
 | x :: r=>okV (evO sl x)&&okL sl r
def okD (sl:Sl):Option Nat→Bool
 | some t=>okV (gs sl t)
 | none=>true
def XJ:AV→Option Nat
 | .ptr k _=>some k
 | .prow k _ _ _=>some k
 | _=>none
def Qj (sl:Sl) (id:Nat):List Opd→Bool
 | []=>true
 | x :: r=>Ua id (evO sl x)&&Qj sl id r
def JR (sl:Sl) (a:COp):Option Nat→Bool
 | some id=>Qj sl id (Zq a)
 | none=>false
def Ub (sl:Sl) (xs:List Opd):AV→Bool
 | .ptr k _=>Qj sl k xs
 | .prow _ _ _ _=>false
 | _=>true
def ZaH (sl:Sl) (xs:List Opd):List Opd→Bool
 | []=>true
 | y :: r=>Ub sl xs (evO sl y)&&ZaH sl xs r
def Vr (sl:Sl) (a:COp):AV→Bool
 | .nil=>true
 | .tup []=>true
 | .own k=>Qj sl k (Zq a)
 | .ownv k _ _=>Qj sl k (Zq a)
 | _=>false
def seenSrc (sl:Sl) (a:COp):AV→Bool
 | .own k=>Qj sl k (Zq a)
 | v=>okV v
def QX (sl:Sl) (xs:List Opd):List Nat→Bool
 | []=>true
 | k :: r=>Qj sl k xs&&QX sl xs r
def XU (sl:Sl) (a:COp):AV→AV→Bool
 | .prow _ _ _ _,.d _=>true
 | .prow _ _ _ _,v=>okV v&&QX sl (Zq a) (Zl v)
 | _,_=>true
def YX (sl:Sl) (d:Option Nat):COp→COp→Bool
 | .move _,_=>okD sl d
 | a,.store _ _ x y=>JR sl a (XJ (evO sl x))&&XU sl a (evO sl x) (evO sl y)
 | a,.append _ _ _ flat x y=>Vr sl a (evO sl x)&&(flat || seenSrc sl a (evO sl y))
 | a,.call _ as=>okL sl (Zq a)&&(okD sl d&&(okL sl as&&ZaH sl (Zq a) as))
 | _,_=>false
def Zc4 (os:List CO) (sl:Sl) (p:Nat×Nat):Bool:=match os[p.1]?,os[p.2]? with
 | some a,some b=>YX sl a.dst a.op b.op
 | _,_=>false
def YU (os:List CO) (sl:Sl):List (Nat×Nat)→Bool
 | []=>true
 | p :: r=>Zc4 os sl p&&YU os sl r
def Xj (M:Zf):Zf:=fun f i=>i != 99&&M f i
section
variable (C:Orc) (M:Zf)
noncomputable def ZaI (nx:Nat):Nat→List CO→Sl→Hp→Option (Sl×Hp)
 | _,[],sl,hp=>some (sl,hp)
 | i,o :: rest,sl,hp=>bnd (ZD sl o.guard) fun b=>
   if b then bnd (Xd (nx+64*i) o.dst sl hp (vop C M sl hp (nx+64*i) o.op)) fun r=>ZaI nx (i+1) rest r.1 r.2
   else ZaI nx (i+1) rest (Zh sl o.dst (.tup [])) hp
def JS (c:Zb):List Nat→Hp→List Nat→List Nat→Option Zb
 | [],[],[],[]=>some c
 | _,_,_,_=>none
def Uc (e:Option Zb):Option Zb:=bnd e fun c=>JS c c.gone c.eff.sets c.eff.dels c.eff.frz
noncomputable def X4 (nx i:Nat) (tail:Bool) (o:COp) (sl:Sl) (hp:Hp):Option Zb:=
 if tail then vop C M sl hp (nx+64*i) o else Uc (vop C M sl hp (nx+64*i) o)
noncomputable def VF (nx:Nat):Nat→Bool→List CO→Sl→Hp→Option (Sl×Hp)
 | _,_,[],sl,hp=>some (sl,hp)
 | i,t,o :: rest,sl,hp=>bnd (ZD sl o.guard) fun b=>
   if b then bnd (Xd (nx+64*i) o.dst sl hp (X4 C M nx i (CO.starts o) o.op sl hp)) fun r=>VF nx (i+1) t rest r.1 r.2
   else VF nx (i+1) t rest (Zh sl o.dst (.tup [])) hp
def Wt {α:Type}:List (Nat×α)→List Nat
 | []=>[]
 | (k,_) :: r=>k :: Wt r
def only {α:Type} (K:List Nat):List (Nat×α)→List (Nat×α)
 | []=>[]
 | (k,v) :: r=>if K.contains k then (k,v) :: only K r else only K r
def Yh:Nat→List Zg→Hp
 | _,[]=>[]
 | k,o :: r=>Yh (k+1) r++[(k,o)]
def Ziy:Sl→List Nat
 | []=>[]
 | (_,v) :: r=>Zl v++Ziy r
def ZjJ:Option Zg→Bool
 | some _=>true
 | none=>false
def UR (hp:Hp) (ids:List Nat) (i:Nat):Bool:=ids.contains i&&ZjJ (lkp hp i)
def ZaJ (hp:Hp) (ids:List Nat):List Nat→List Nat
 | []=>[]
 | i :: r=>if UR hp ids i then ZaJ hp ids r else i :: ZaJ hp ids r
def Jd (hp:Hp) (ids:List Nat) (v:AV):AV:=ren (XZ ids) (kill (ZaJ hp ids (Zl v)) v)
def ZaK (hp:Hp) (ids:List Nat) (o:Zg):Zg:=Zcw (XZ ids) (QC (ZaJ hp ids (Ve o)) o)
def Zmo:Option Zg→List Nat
 | some o=>Ve o
 | none=>[]
def Yu (hp:Hp):List Nat→List Nat
 | []=>[]
 | id :: r=>Zmo (lkp hp id)++Yu hp r
def Y6 (K:List Nat) (st:St):St:=
 let sl:=only K st.sl
 let ids:=Qq st.hp (QT st.hp) (Ziy sl++Yu st.hp (List.range st.m)) (List.range st.m)
 { sl:=Zdt (Jd st.hp ids) sl,hp:=Yh 0 ((UN st.hp ids).map (ZaK st.hp ids)),nx:=ids.length,m:=st.m }
def VG (f:St→Option (Ex×St)) (K:List Nat):Nat→St→Option (Ex×St)
 | 0,_=>none
 | n+1,st=>match f (Y6 K st) with
  | some (.normal,st')=>VG f K n st'
  | r=>r
def andThen (r:Option (Ex×St)) (k:St→Option (Ex×St)):Option (Ex×St):=match r with
 | some (.normal,st)=>k st
 | r=>r
def ZbO (v:AV) (a b:Option (Ex×St)):Option (Ex×St):=match v with
 | .d (.bool t)=>if t then a else b
 | _=>none
def ZaL (id:Nat) (r:Option (Ex×St)):Option (Ex×St):=match r with
 | some (.exit j,st)=>if j=id then some (.normal,st) else some (.exit j,st)
 | r=>r
def Ziz (ops:List CO) (ps:List (Nat×Nat)) (r:Option (Sl×Hp)):Option (Sl×Hp):=bnd r fun r=>if YU ops r.1 ps then some r else none
def ZeU (m nx:Nat) (r:Option (Sl×Hp)):Option (Ex×St):=bnd r fun r=>some (.normal,{ sl:=r.1,hp:=r.2,nx:=nx,m:=m })
def Zgr (K:List Nat) (r:Option (Ex×St)):Option (Ex×St):=match r with
 | some q=>some (q.1,{ q.2 with sl:=only K q.2.sl })
 | none=>none
def Zno (fl:Bool) (k:Nat) (ys:List D):Option Zg:=if fl then (if Wz D.flat ys then some (.row k ys true false) else none) else some (.tree k k ys none)
def Zc5 (xs:List D) (n j:Nat) (y:D):Option (List D):=bnd xs[n]? fun x=>some (xs.set n (Xp x j [y]))
def Znp (fl:Bool) (nx n j:Nat):Option Zg→Option (Zg×Zg)
 | some (.tree s k xs none)=>bnd (Vo xs n j) fun ys=>bnd (Zno fl k ys) fun o=>bnd (Zc5 xs n j (.sl [])) fun xs'=>some (.tree s k xs' (some (some nx,n,j)),o)
 | _=>none
def JT (fl:Bool) (id:Nat) (i:Opd) (j:Nat) (st:St):Option St:=bnd (idx (evO st.sl i)) fun n=>if 0≤n then bnd (Znp fl st.nx n.toNat j (lkp st.hp id)) fun q=>some { st with hp:=ins (ins st.hp id q.1) st.nx q.2,nx:=st.nx+64 } else none
def Zgs (k:Nat):Option Zg→Option (List D)
 | some (.row k' ys true false)=>if k'=k∧Wz D.flat ys then some ys else none
 | some (.tree k' n ys none)=>if k'=k∧n=k then some ys else none
 | _=>none
def ZeF (hp:Hp) (id nm:Nat):Option Zg→Option Hp
 | some (.tree s k xs (some (some nm',n,j)))=>if nm'=nm then bnd (Zgs k (lkp hp nm)) fun ys=>bnd (Zc5 xs n j (.sl ys)) fun xs'=>some (ins (del hp nm) id (.tree s k xs' none)) else none
 | _=>none
def Zoq (hp:Hp):Option Hp→Hp
 | some h=>h
 | none=>hp
def Zgt (id nm:Nat) (r:Option (Ex×St)):Option (Ex×St):=match r with
 | some q=>some (q.1,{ q.2 with hp:=Zoq q.2.hp (ZeF q.2.hp id nm (lkp q.2.hp id)) })
 | none=>none
def ZjK (st:St):St := { st with hp:=Zdt ZcU st.hp }
noncomputable def Zt (N:Nat):Zy→St→Option (Ex×St)
 | .skip,st=>some (.normal,st)
 | .region n none ops,st=>ZeU st.m (st.nx+64*n) (ZaI C M st.nx 0 ops st.sl st.hp)
 | .region n (some ps) ops,st=>ZeU st.m (st.nx+64*n) (Ziz ops ps (VF C (Xj M) st.nx 0 false ops st.sl st.hp))
 | .seq a b,st=>andThen (Zt N a st) (Zt N b)
 | .cond c a b,st=>ZbO (evO st.sl c) (Zt N a st) (Zt N b st)
 | .block id c,st=>ZaL id (Zt N c st)
 | .loop c,st=>VG (Zt N c) (Wt st.sl) N st
 | .exit id,st=>some (.exit id,st)
 | .ret,st=>some (.ret,st)
 | .keep K c,st=>Zgr K (Zt N c st)
 | .stuck,_=>none
 | .link fl id i j c,st=>bnd (JT fl id i j st) fun st1=>Zgt id st.nx (Zt N c st1)
 | .melt c,st=>Zt N c (ZjK st)
def Zgu (st:St):Zhw→Option AV
 | .tmp t=>some (gs st.sl t)
 | .cell a g s=>YI st.hp g s (gs st.sl a)
def Yi (m:Nat) (hp:Hp) (v:AV):AV×List Zg:=
 let ids:=Qq hp (QT hp) (Zl v++Yu hp (List.range m)) (List.range m)
 (Jd hp ids v,(UN hp ids).map (ZaK hp ids))
def Znq:AV→Bool
 | .tup _=>true
 | _=>false
def Zcf:List AV→Bool
 | []=>false
 | v :: r=>Znq v || Zcf r
def Ud:List AV→AV
 | [v]=>v
 | vs=>if Zcf vs then .junk else .tup vs
def X3:Nat→List AV→Sl
 | _,[]=>[]
 | k,v :: r=>X3 (k+1) r++[(k,v)]
def US (m:Nat) (rs:List Zhw) (r:Option (Ex×St)):Option (AV×List Zg):=match r with
 | some (.normal,st)=>bnd (Z3 (Zgu st) rs) fun vs=>some (Yi m st.hp (Ud vs))
 | some (.ret,st)=>bnd (Z3 (Zgu st) rs) fun vs=>some (Yi m st.hp (Ud vs))
 | _=>none
noncomputable def Zgv (N:Nat) (fn:ZR) (as:List AV) (h:List Zg):Option (AV×List Zg):=
 if as.length≤fn.nt then US h.length fn.res (Zt C M N fn.body { sl:=X3 0 as,hp:=Yh 0 h,nx:=h.length,m:=h.length }) else none
end
inductive Fn where
 | text (f:ZR)
 | prim (p:List AV→List Zg→Option (AV×List Zg))
abbrev Fns:=Nat→Option Fn
noncomputable def ZdO (C:Orc) (M:Zf) (N:Nat) (as:List AV) (h:List Zg):Option Fn→Option (AV×List Zg)
 | some (.text f)=>Zgv C M N f as h
 | some (.prim p)=>p as h
 | none=>none
noncomputable def ZW (X:Fns) (M:Zf):Nat→Orc
 | 0,_,_,_=>none
 | n+1,f,as,h=>ZdO (ZW X M n) M n as h (X f)
open Classical in
noncomputable def lim {α:Type} (x:Nat→Option α):Option α:=if h:∃ r,∃ n,x n=some r then some h.choose else none
def Zor {α:Type} (x:Nat→Option α):Prop:=∀ n r,x n=some r→x (n+1)=some r
theorem Zor.le {α:Type} {x:Nat→Option α} (h:Zor x) {n m:Nat} {r:α} (hr:x n=some r) (aa:n≤m):x m=some r:=by
 induction aa with
 | refl=>exact hr
 | step _ ih=>exact h _ _ ih
theorem Zcg {α:Type} {x:Nat→Option α} (h:Zor x) {n:Nat} {r:α} (hr:x n=some r):lim x=some r:=by
 have he:∃ r,∃ n,x n=some r:=⟨r,n,hr⟩
 unfold lim;rw[dif_pos he];obtain⟨m,hm⟩:=he.choose_spec;have h1:=h.le hm (LQ m n);have h2:=h.le hr (LM m n);rw[h1] at h2;exact h2
theorem ZaM {α:Type} {x:Nat→Option α} {r:α} (hr:lim x=some r):∃ n,x n=some r:=by
 unfold lim at hr;split at hr
 ·rename_i h;obtain⟨n,hn⟩:=h.choose_spec;exact⟨n,by rw[hn];exact hr⟩
 ·cases hr
def Orc.le (C C' : Orc):Prop:=∀ f as h r,C f as h=some r→C' f as h=some r
section
variable {M:Zf} {C C' : Orc}
theorem Wu {α β:Type} {x x' : Option α} {f f' : α→Option β} {r:β} (hx:∀ a,x=some a→x'=some a) (hf:∀ a,f a=some r→f' a=some r) (h:bnd x f=some r):bnd x' f'=some r:=by
 obtain⟨a,h1,h2⟩:=Za h;rw[hx a h1];exact hf a h2
theorem Zpy (h:C.le C') {m:Nat→Bool} {hp:Hp} {base f:Nat} {aa:List AV} {r:Zb}
  (hr:Uy C m hp base f aa=some r):Uy C' m hp base f aa=some r:=by
 unfold Uy at hr ⊢;refine Wu (fun _ h=>h) (fun as hr=>?_) hr;unfold JF at hr ⊢;by_cases hc:(as.flatMap Zl).all (Qq hp (QT hp) (as.flatMap Zl) []).contains∧¬(Xi aa as).any (Qq hp (QT hp) (as.flatMap Zl) []).contains∧WF hp (as.flatMap VE) (Qq hp (QT hp) (as.flatMap Zl) [])=true
 ·rw[Ko hc] at hr ⊢;exact Wu (fun q hq=>h _ _ _ _ hq) (fun _ h=>h) hr
 ·rw[Kk hc] at hr;cases hr
theorem ZjL (h:C.le C') {sl:Sl} {hp:Hp} {base:Nat} {o:COp} {r:Zb} (hr:vop C M sl hp base o=some r) :
  vop C' M sl hp base o=some r:=by
 cases o with
 | call f as=>
  simp only[vop] at hr ⊢;cases hg:evO sl f<;>simp only[hg,UP] at hr ⊢ <;> first | exact Zpy h hr | exact hr
 | _=>exact hr
theorem ZjM (h:C.le C') (nx:Nat):∀ (l:List CO) (i:Nat) (sl:Sl) (hp:Hp) (r:Sl×Hp),
  ZaI C M nx i l sl hp=some r→ZaI C' M nx i l sl hp=some r:=by
 intro l
 induction l with
 | nil=>intro i sl hp r hr;exact hr
 | cons o rest ih=>
  intro i sl hp r hr;simp only[ZaI] at hr ⊢;refine Wu (fun _ h=>h) (fun b hr=>?_) hr;cases b
  ·simp only[Ka,Kg] at hr ⊢;exact ih _ _ _ _ hr
  ·simp only[Kh] at hr ⊢;refine Wu (fun q hq=>?_) (fun q hq=>ih _ _ _ _ hq) hr;unfold Xd at hq ⊢;exact Wu (fun e he=>ZjL h he) (fun _ h=>h) hq
theorem Znr (h:C.le C') {nx i:Nat} {t:Bool} {o:COp} {sl:Sl} {hp:Hp} {e:Zb} (he:X4 C M nx i t o sl hp=some e) :
  X4 C' M nx i t o sl hp=some e:=by
 unfold X4 at he ⊢;cases t
 ·simp only[Ka,Kg,Uc] at he ⊢;exact Wu (fun _ hv=>ZjL h hv) (fun _ h=>h) he
 ·simp only[Kh] at he ⊢;exact ZjL h he
theorem Zc6 (h:C.le C') (nx:Nat):∀ (l:List CO) (i:Nat) (t:Bool) (sl:Sl) (hp:Hp) (r:Sl×Hp),
  VF C M nx i t l sl hp=some r→VF C' M nx i t l sl hp=some r:=by
 intro l
 induction l with
 | nil=>intro i t sl hp r hr;exact hr
 | cons o rest ih=>
  intro i t sl hp r hr;simp only[VF] at hr ⊢;refine Wu (fun _ h=>h) (fun b hr=>?_) hr;cases b
  ·simp only[Ka,Kg] at hr ⊢;exact ih _ _ _ _ _ hr
  ·simp only[Kh] at hr ⊢;refine Wu (fun q hq=>?_) (fun q hq=>ih _ _ _ _ _ hq) hr;unfold Xd at hq ⊢;exact Wu (fun e he=>Znr h he) (fun _ h=>h) hq
theorem Zc7 {f g:St→Option (Ex×St)} (h:∀ st r,f st=some r→g st=some r) (K:List Nat) :
  ∀ (n m:Nat) (st:St) (r:Ex×St),n≤m→VG f K n st=some r→VG g K m st=some r:=by
 intro n
 induction n with
 | zero=>intro m st r _ hr;simp[VG] at hr
 | succ n ih=>
  intro m st r hm hr;cases m with
  | zero=>omega
  | succ m=>
   simp only[VG] at hr ⊢;cases hf:f (Y6 K st) with
   | none=>simp[hf] at hr
   | some q=>
    rw[hf] at hr;rw[h _ _ hf];obtain⟨e,aa⟩:=q;cases e with
    | normal=>exact ih m aa r (by omega) hr
    | exit id=>exact hr
    | ret=>exact hr
theorem Zfi (h:C.le C') {N N' : Nat} (hN:N≤N'):∀ (c:Zy) (st:St) (r:Ex×St),
  Zt C M N c st=some r→Zt C' M N' c st=some r:=by
 intro c
 induction c with
 | skip=>intro st r hr;simpa [Zt] using hr
 | region n draw ops=>
  intro st r hr;cases draw
  ·simp only[Zt,ZeU] at hr ⊢;exact Wu (fun q hq=>ZjM h _ _ _ _ _ _ hq) (fun _ h=>h) hr
  ·simp only[Zt,ZeU,Ziz] at hr ⊢;exact Wu (fun q hq=>Wu (fun q hq=>Zc6 h _ _ _ _ _ _ _ hq) (fun _ h=>h) hq) (fun _ h=>h) hr
 | seq a b iha ihb=>
  intro st r hr;simp only[Zt] at hr ⊢;cases ha:Zt C M N a st with
  | none=>simp[ha,andThen] at hr
  | some q=>
   rw[ha] at hr;rw[iha _ _ ha];obtain⟨e,aa⟩:=q;cases e with
   | normal=>exact ihb _ _ hr
   | exit id=>exact hr
   | ret=>exact hr
 | cond c a b iha ihb=>
  intro st r hr;simp only[Zt,ZbO] at hr ⊢;split at hr
  ·rename_i t ht;cases t
   ·simp only[Ka,Kg] at hr ⊢;exact ihb _ _ hr
   ·simp only[Kh] at hr ⊢;exact iha _ _ hr
  ·cases hr
 | block id c ih=>
  intro st r hr;simp only[Zt] at hr ⊢;cases hc:Zt C M N c st with
  | none=>simp[hc,ZaL] at hr
  | some q=>rw[hc] at hr;rw[ih _ _ hc];exact hr
 | loop c ih=>
  intro st r hr;simp only[Zt] at hr ⊢;exact Zc7 ih _ _ _ _ _ hN hr
 | exit id=>intro st r hr;simpa [Zt] using hr
 | ret=>intro st r hr;simpa [Zt] using hr
 | keep K c ih=>
  intro st r hr;simp only[Zt] at hr ⊢;cases hc:Zt C M N c st with
  | none=>simp[hc,Zgr] at hr
  | some q=>rw[hc] at hr;rw[ih _ _ hc];exact hr
 | stuck=>intro st r hr;simp[Zt] at hr
 | link fl id i j c ih=>
  intro st r hr;simp only[Zt] at hr ⊢;obtain⟨aa,h1,h2⟩:=Za hr;rw[h1,Zc];cases hc:Zt C M N c aa with
  | none=>simp[hc,Zgt] at h2
  | some q=>rw[hc] at h2;rw[ih _ _ hc];exact h2
 | melt c ih=>
  intro st r hr;simp only[Zt] at hr ⊢;exact ih _ r hr
theorem Zpz (h:C.le C') {N N' : Nat} (hN:N≤N') {f:ZR} {as:List AV} {hh:List Zg} {r:AV×List Zg}
  (hr:Zgv C M N f as hh=some r):Zgv C' M N' f as hh=some r:=by
 unfold Zgv at hr ⊢;by_cases hl:as.length≤f.nt
 ·rw[Ko hl] at hr ⊢;cases hv:Zt C M N f.body { sl:=X3 0 as,hp:=Yh 0 hh,nx:=hh.length,m:=hh.length } with
  | none=>simp[hv,US] at hr
  | some q=>rw[hv] at hr;rw[Zfi h hN _ _ _ hv];exact hr
 ·rw[Kk hl] at hr;cases hr
end
section
variable (X:Fns) (M:Zf)
theorem ZdP:∀ n,(ZW X M n).le (ZW X M (n+1)):=by
 intro n
 induction n with
 | zero=>intro f as h r hr;simp[ZW] at hr
 | succ n ih=>
  intro f as h r hr;rw[ZW] at hr ⊢;cases hf:X f with
  | none=>rw[hf] at hr;cases hr
  | some g=>
   rw[hf] at hr;cases g with
   | text g=>exact Zpz ih (Nat.le_succ n) hr
   | prim p=>exact hr
noncomputable def Zi (f:Nat) (as:List AV) (h:List Zg):Option (AV×List Zg):=lim fun n=>ZW X M n f as h
noncomputable def Qd (c:Zy) (st:St):Option (Ex×St):=lim fun n=>Zt (ZW X M n) M n c st
theorem UB (f:Nat) (as:List AV) (h:List Zg):Zor fun n=>ZW X M n f as h:=fun n r hr=>ZdP X M n f as h r hr
theorem JU (n:Nat):(ZW X M n).le (Zi X M):=fun f as h _ hr=>Zcg (UB X M f as h) hr
theorem Zch (c:Zy) (st:St):Zor fun n=>Zt (ZW X M n) M n c st:=fun n r hr=>Zfi (ZdP X M n) (Nat.le_succ n) c st r hr
theorem Ue {n m:Nat} (h:n≤m):(ZW X M n).le (ZW X M m):=fun f as hh _ hr=>(UB X M f as hh).le hr h
theorem Zk5 {m:Nat→Bool} {hp:Hp} {base f:Nat} {aa:List AV} {r:Zb}
  (hr:Uy (Zi X M) m hp base f aa=some r):∃ n,Uy (ZW X M n) m hp base f aa=some r:=by
 unfold Uy at hr ⊢;obtain⟨as,ab,hr⟩:=Za hr;simp only[ab,Zc];unfold JF at hr ⊢;by_cases hc:(as.flatMap Zl).all (Qq hp (QT hp) (as.flatMap Zl) []).contains∧¬(Xi aa as).any (Qq hp (QT hp) (as.flatMap Zl) []).contains∧WF hp (as.flatMap VE) (Qq hp (QT hp) (as.flatMap Zl) [])=true
 ·rw[Ko hc] at hr;obtain⟨q,hq,hr⟩:=Za hr;obtain⟨n,hn⟩:=ZaM hq;refine⟨n,?_⟩;rw[Ko hc,hn];exact hr
 ·rw[Kk hc] at hr;cases hr
theorem ZdQ {M' : Zf} {sl:Sl} {hp:Hp} {base:Nat} {o:COp} {r:Zb} (hr:vop (Zi X M) M' sl hp base o=some r) :
  ∃ n,vop (ZW X M n) M' sl hp base o=some r:=by
 cases o with
 | call f as=>
  simp only[vop] at hr ⊢;cases hg:evO sl f<;>simp only[hg,UP] at hr ⊢ <;> first | exact Zk5 X M hr | exact⟨0,hr⟩
 | _=>exact⟨0,hr⟩
theorem Zmp (nx:Nat):∀ (l:List CO) (i:Nat) (sl:Sl) (hp:Hp) (r:Sl×Hp),
  ZaI (Zi X M) M nx i l sl hp=some r→∃ n,ZaI (ZW X M n) M nx i l sl hp=some r:=by
 intro l
 induction l with
 | nil=>intro i sl hp r hr;exact⟨0,hr⟩
 | cons o rest ih=>
  intro i sl hp r hr;simp only[ZaI] at hr ⊢;obtain⟨b,hb,hr⟩:=Za hr;simp only[hb,Zc];cases b
  ·simp only[Ka,Kg] at hr ⊢;exact ih _ _ _ _ hr
  ·simp only[Kh] at hr ⊢;obtain⟨q,hq,hr⟩:=Za hr;unfold Xd at hq;obtain⟨e,he,hq⟩:=Za hq;obtain⟨n1,h1⟩:=ZdQ X M he;obtain⟨n2,h2⟩:=ih _ _ _ _ hr;refine⟨max n1 n2,?_⟩;unfold Xd;rw[ZjL (Ue X M (LQ n1 n2)) h1,Zc,hq,Zc];exact ZjM (Ue X M (LM n1 n2)) _ _ _ _ _ _ h2
theorem Zmq {M' : Zf} {nx i:Nat} {t:Bool} {o:COp} {sl:Sl} {hp:Hp} {e:Zb} (he:X4 (Zi X M) M' nx i t o sl hp=some e) :
  ∃ n,X4 (ZW X M n) M' nx i t o sl hp=some e:=by
 unfold X4 at he ⊢;cases t
 ·simp only[Ka,Kg,Uc] at he ⊢;obtain⟨e',aa,h2⟩:=Za he;obtain⟨n,hn⟩:=ZdQ X M aa;exact⟨n,by rw[hn];exact h2⟩
 ·simp only[Kh] at he ⊢;exact ZdQ X M he
theorem Zk6 {M' : Zf} (nx:Nat):∀ (l:List CO) (i:Nat) (t:Bool) (sl:Sl) (hp:Hp) (r:Sl×Hp),
  VF (Zi X M) M' nx i t l sl hp=some r→∃ n,VF (ZW X M n) M' nx i t l sl hp=some r:=by
 intro l
 induction l with
 | nil=>intro i t sl hp r hr;exact⟨0,hr⟩
 | cons o rest ih=>
  intro i t sl hp r hr;simp only[VF] at hr ⊢;obtain⟨b,hb,hr⟩:=Za hr;simp only[hb,Zc];cases b
  ·simp only[Ka,Kg] at hr ⊢;exact ih _ _ _ _ _ hr
  ·simp only[Kh] at hr ⊢;obtain⟨q,hq,hr⟩:=Za hr;unfold Xd at hq;obtain⟨e,he,hq⟩:=Za hq;obtain⟨n1,h1⟩:=Zmq X M he;obtain⟨n2,h2⟩:=ih _ _ _ _ _ hr;refine⟨max n1 n2,?_⟩;unfold Xd;rw[Znr (Ue X M (LQ n1 n2)) h1,Zc,hq,Zc];exact Zc6 (Ue X M (LM n1 n2)) _ _ _ _ _ _ _ h2
theorem QD {c:Zy} {st:St} {n:Nat} {r:Ex×St} (h:Zt (ZW X M n) M n c st=some r):Qd X M c st=some r:=
 Zcg (Zch X M c st) h
theorem Xv {α:Type} {x:Nat→Option α} (h:∀ n,x n=none):lim x=none:=by
 cases hx:lim x with
 | none=>rfl
 | some r=>obtain⟨n,hn⟩:=ZaM hx;rw[h n] at hn;cases hn
theorem Zmr (st:St):Qd X M .skip st=some (.normal,st):=QD X M (n:=0) (by simp[Zt])
theorem Zms (id:Nat) (st:St):Qd X M (.exit id) st=some (.exit id,st):=QD X M (n:=0) (by simp[Zt])
theorem Zos (st:St):Qd X M .ret st=some (.ret,st):=QD X M (n:=0) (by simp[Zt])
theorem ZjN (n:Nat) (ops:List CO) (st:St) :
  Qd X M (.region n none ops) st=ZeU st.m (st.nx+64*n) (ZaI (Zi X M) M st.nx 0 ops st.sl st.hp):=by
 cases h:ZaI (Zi X M) M st.nx 0 ops st.sl st.hp with
 | some r=>
  obtain⟨k,hk⟩:=Zmp X M _ _ _ _ _ _ h;exact QD X M (n:=k) (by simp only[Zt,hk,ZeU,Zc])
 | none=>
  refine Xv fun k=>?_;simp only[Zt];cases hn:ZaI (ZW X M k) M st.nx 0 ops st.sl st.hp with
  | none=>rfl
  | some r=>rw[ZjM (JU X M k) _ _ _ _ _ _ hn] at h;cases h
theorem Zmt (n:Nat) (ps:List (Nat×Nat)) (ops:List CO) (st:St) :
  Qd X M (.region n (some ps) ops) st=ZeU st.m (st.nx+64*n) (Ziz ops ps (VF (Zi X M) (Xj M) st.nx 0 false ops st.sl st.hp)):=by
 cases h:VF (Zi X M) (Xj M) st.nx 0 false ops st.sl st.hp with
 | some r=>
  obtain⟨k,hk⟩:=Zk6 X M _ _ _ _ _ _ _ h;cases hs:Ziz ops ps (some r) with
  | none=>
   refine Xv fun k'=>?_;simp only[Zt];cases hn:VF (ZW X M k') (Xj M) st.nx 0 false ops st.sl st.hp with
   | none=>rfl
   | some r' =>
    have:=Zc6 (JU X M k') _ _ _ _ _ _ _ hn;rw[h] at this;cases this;rw[hs];rfl
  | some r'=>exact QD X M (n:=k) (by simp only[Zt,hk,hs];rfl)
 | none=>
  refine Xv fun k=>?_;simp only[Zt];cases hn:VF (ZW X M k) (Xj M) st.nx 0 false ops st.sl st.hp with
  | none=>rfl
  | some r=>rw[Zc6 (JU X M k) _ _ _ _ _ _ _ hn] at h;cases h
theorem Vs {c:Zy} {st:St} {r:Ex×St} (h:Qd X M c st=some r):∃ n,∀ m,n≤m→Zt (ZW X M m) M m c st=some r:=by
 obtain⟨n,hn⟩:=ZaM h;exact⟨n,fun m hm=>(Zch X M c st).le hn hm⟩
theorem Zot (a b:Zy) (st:St):Qd X M (.seq a b) st=andThen (Qd X M a st) (Qd X M b):=by
 cases ha:Qd X M a st with
 | none=>
  refine Xv fun n=>?_;cases h:Zt (ZW X M n) M n a st with
  | none=>simp[Zt,h,andThen]
  | some q=>rw[QD X M h] at ha;cases ha
 | some q=>
  obtain⟨e,aa⟩:=q;obtain⟨n,hn⟩:=Vs X M ha;cases e with
  | normal=>
   simp only[andThen];cases hb:Qd X M b aa with
   | none=>
    refine Xv fun k=>?_;cases h:Zt (ZW X M k) M k (.seq a b) st with
    | none=>rfl
    | some q=>
     have h1:=(Zch X M (.seq a b) st).le h (LQ k n);simp only[Zt,hn _ (LM k n),andThen] at h1;rw[QD X M h1] at hb;cases hb
   | some q=>
    obtain⟨m,hm⟩:=Vs X M hb;refine QD X M (n:=max n m) ?_;simp only[Zt,hn _ (LQ n m),andThen,hm _ (LM n m)]
  | exit id=>exact QD X M (n:=n) (by simp only[Zt,hn _ (Ke n),andThen])
  | ret=>exact QD X M (n:=n) (by simp only[Zt,hn _ (Ke n),andThen])
theorem Zmu (c:Opd) (a b:Zy) (st:St) :
  Qd X M (.cond c a b) st=ZbO (evO st.sl c) (Qd X M a st) (Qd X M b st):=by
 unfold ZbO;split
 ·rename_i t h;cases t
  ·simp only[Ka,Kg,Qd,Zt,h,ZbO]
  ·simp only[Kh,Qd,Zt,h,ZbO]
 ·rename_i h;refine Xv fun n=>?_;simp only[Zt,ZbO]
theorem Zk7 (id:Nat) (c:Zy) (st:St):Qd X M (.block id c) st=ZaL id (Qd X M c st):=by
 cases hc:Qd X M c st with
 | none=>
  refine Xv fun n=>?_;cases h:Zt (ZW X M n) M n c st with
  | none=>simp[Zt,h,ZaL]
  | some q=>rw[QD X M h] at hc;cases hc
 | some q=>
  obtain⟨n,hn⟩:=Vs X M hc;cases hb:ZaL id (some q) with
  | none=>
   obtain⟨e,aa⟩:=q;cases e<;>simp[ZaL] at hb
   split at hb<;>cases hb
  | some r=>exact QD X M (n:=n) (by simp only[Zt,hn _ (Ke n),hb])
theorem Zmv (K:List Nat) (c:Zy) (st:St):Qd X M (.keep K c) st=Zgr K (Qd X M c st):=by
 cases hc:Qd X M c st with
 | none=>
  refine Xv fun n=>?_;cases h:Zt (ZW X M n) M n c st with
  | none=>simp[Zt,h,Zgr]
  | some q=>rw[QD X M h] at hc;cases hc
 | some q=>
  obtain⟨n,hn⟩:=Vs X M hc;exact QD X M (n:=n) (by simp only[Zt,hn _ (Ke n),Zgr])
theorem Zmw (fl:Bool) (id:Nat) (i:Opd) (j:Nat) (c:Zy) (st:St):Qd X M (.link fl id i j c) st=bnd (JT fl id i j st) fun st1=>Zgt id st.nx (Qd X M c st1):=by
 cases hl:JT fl id i j st with
 | none=>
  refine Xv fun n=>?_;simp only[Zt,hl];rfl
 | some st' =>
  rw[Zc];cases hc:Qd X M c st' with
  | none=>
   refine Xv fun n=>?_;cases h:Zt (ZW X M n) M n c st' with
   | none=>simp only[Zt,hl,Zc,h];rfl
   | some q=>rw[QD X M h] at hc;cases hc
  | some q=>
   obtain⟨n,hn⟩:=Vs X M hc;exact QD X M (n:=n) (by simp only[Zt,hl,Zc,hn _ (Ke n)];rfl)
theorem Zmx (c:Zy) (st:St):Qd X M (.melt c) st=Qd X M c (ZjK st):=by
 cases hc:Qd X M c (ZjK st) with
 | none=>
  refine Xv fun n=>?_;cases h:Zt (ZW X M n) M n c (ZjK st) with
  | none=>simp only[Zt,h]
  | some q=>rw[QD X M h] at hc;cases hc
 | some q=>
  obtain⟨n,hn⟩:=Vs X M hc;exact QD X M (n:=n) (by simp only[Zt,hn _ (Ke n)])
noncomputable def ZaN (c:Zy) (K:List Nat) (st:St):Option (Ex×St):=lim fun n=>VG (Zt (ZW X M n) M n c) K n st
theorem UC (c:Zy) (K:List Nat) (st:St):Zor fun n=>VG (Zt (ZW X M n) M n c) K n st:=fun n r hr=>
 Zc7 (fun _ _ h=>Zfi (ZdP X M n) (Nat.le_succ n) c _ _ h) K n (n+1) st r (Nat.le_succ n) hr
theorem Zmy (c:Zy) (st:St):Qd X M (.loop c) st=ZaN X M c (Wt st.sl) st:=by
 simp only[Qd,ZaN,Zt]
theorem Zk8 {c:Zy} {K:List Nat} {st aa : St} (h:Qd X M c (Y6 K st)=some (.normal,aa)) :
  ZaN X M c K st=ZaN X M c K aa:=by
 obtain⟨n,hn⟩:=Vs X M h;cases hl:ZaN X M c K aa with
 | none=>
  refine Xv fun k=>?_;cases hk:VG (Zt (ZW X M k) M k c) K k st with
  | none=>rfl
  | some q=>
   have h1:=(UC X M c K st).le hk (show k≤max k n+1 by omega);simp only[VG] at h1;rw[hn (max k n+1) (by omega)] at h1;simp only[] at h1;have h2:=Zc7 (fun _ _ h=>h) K (max k n) (max k n+1) aa q (Nat.le_succ _) h1;rw[show ZaN X M c K aa=some q from Zcg (UC X M c K aa) h2] at hl;cases hl
 | some q=>
  obtain⟨m,hm⟩:=ZaM hl;refine Zcg (UC X M c K st) (n:=max n m+1) ?_;simp only[VG,hn (max n m+1) (by omega)];exact Zc7 (fun _ _ h=>Zfi (Ue X M (show m≤max n m+1 by omega)) (show m≤max n m+1 by omega) c _ _ h) K m (max n m) aa q (by omega) hm
theorem Zgw {c:Zy} {K:List Nat} {st aa : St} {e:Ex} (he:e≠.normal) (h:Qd X M c (Y6 K st)=some (e,aa)) :
  ZaN X M c K st=some (e,aa):=by
 obtain⟨n,hn⟩:=Vs X M h;refine Zcg (UC X M c K st) (n:=n+1) ?_;simp only[VG,hn (n+1) (by omega)];cases e with
 | normal=>exact absurd rfl he
 | exit id=>rfl
 | ret=>rfl
theorem ZpA {f:Nat} {as:List AV} {h:List Zg} {fn:ZR} {r:AV×List Zg} (hx:X f=some (.text fn))
  (hl:as.length≤fn.nt) (hr:US h.length fn.res (Qd X M fn.body { sl:=X3 0 as,hp:=Yh 0 h,nx:=h.length,m:=h.length })=some r) :
  Zi X M f as h=some r:=by
 cases hv:Qd X M fn.body { sl:=X3 0 as,hp:=Yh 0 h,nx:=h.length,m:=h.length } with
 | none=>rw[hv] at hr;simp[US] at hr
 | some q=>
  rw[hv] at hr;obtain⟨n,hn⟩:=Vs X M hv;refine Zcg (UB X M f as h) (n:=n+1) ?_;simp only[ZW,hx,ZdO,Zgv,hl,Kh,hn n (Ke n)];exact hr
theorem Zsp {f:Nat} {as:List AV} {h:List Zg} {p:List AV→List Zg→Option (AV×List Zg)} {r:AV×List Zg} (hx:X f=some (.prim p)) (hp:p as h=some r) :
  Zi X M f as h=some r:=
 Zcg (UB X M f as h) (n:=1) (by simp only[ZW,hx,ZdO,hp])
end
section
variable (P:Program)
def YB (nt:Nat):Code→Option Zy
 | .skip=>some .skip
 | .region _ ops draw=>bnd (Z3 (ZeC P nt ops.toList) ops.toList) fun os=>if draw then (if Zgq ops os then some (.region ops.toList.length (some (W9 ops os)) os) else some .stuck) else some (.region ops.toList.length none os)
 | .seq a b=>bnd (YB nt a) fun a=>bnd (YB nt b) fun b=>some (.seq a b)
 | .cond c a b=>bnd (ZC c) fun c=>bnd (YB nt a) fun a=>bnd (YB nt b) fun b=>some (.cond c a b)
 | .block id c=>bnd (YB nt c) fun c=>some (.block id c)
 | .loop c=>bnd (YB nt c) fun c=>some (.loop c)
 | .exit id=>some (.exit id)
 | .ret=>some .ret
 | _=>some .stuck
def JV:COp→COp
 | .buildT s _ xs=>.buildSl s xs
 | .asgT s _ x=>.assign (some s) x
 | .appT s b flat x y=>.append s b false flat x y
 | .makeT s b _ z l c=>.make s b z l c
 | c=>c
def ZdR:List CO→List CO
 | []=>[]
 | o :: r => { o with op:=JV o.op } :: ZdR r
def Zmz:Option (List (Nat×Nat))→List CO→List CO
 | none,ops=>ZdR ops
 | some _,ops=>ops
def Xe:Zy→Zy
 | .keep _ c=>Xe c
 | .seq a b=>.seq (Xe a) (Xe b)
 | .cond c a b=>.cond c (Xe a) (Xe b)
 | .block id c=>.block id (Xe c)
 | .loop c=>.loop (Xe c)
 | .region n d ops=>.region n d (Zmz d ops)
 | .link _ _ _ _ c=>Xe c
 | .melt c=>Xe c
 | .skip=>.skip
 | .exit id=>.exit id
 | .ret=>.ret
 | .stuck=>.stuck
def ZdS (cf:ZR):ZR := { nt:=cf.nt,res:=cf.res,body:=Xe cf.body }
def cRes:ResultVar→Option Zhw
 | .tmp t=>some (.tmp t)
 | .cell a t=>bnd (Jb P t) fun g=>some (.cell a g (P.cellsOf t))
def cFun (fn:Func):Option ZR:=bnd fn.body fun c=>bnd (YB P fn.ntmps c) fun b=>bnd (Z3 (cRes P) fn.results.toList) fun rs=>some { nt:=fn.ntmps,res:=rs,body:=b }
end
end Go.Abs
