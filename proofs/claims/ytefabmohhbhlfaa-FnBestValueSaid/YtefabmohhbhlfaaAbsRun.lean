/- Own text. -/
import Derived.Test.YtefabmohhbhlfaaAbsOps
set_option linter.unusedVariables false
set_option linter.unusedSimpArgs false
namespace Go.Abs
open Go
inductive Ex where
 | normal
 | exit (id:Nat)
 | ret
def Qn (lo hi:Nat):Hp→Bool
 | []=>true
 | (k,_) :: r=>decide (lo≤k)&&decide (k<hi)&&Qn (k+1) hi r
def Qx (gone:List Nat) (sl:Sl):Sl:=match gone with
 | []=>sl
 | _=>Zdy (kill gone) sl
def Yg (gone:List Nat) (hp:Hp):Hp:=match gone with
 | []=>hp
 | _=>Zdy (QD gone) hp
def Zi (sl:Sl) (dst:Option Nat) (v:AV):Sl:=match dst with
 | some t=>ins sl t v
 | none=>sl
def Zb.on (e:Zb) (dst:Option Nat) (sl:Sl) (hp:Hp):Sl×Hp:=
 (Zi (Qx e.gone sl) dst e.eff.val,e.eff.on (Yg e.gone hp))
def Xf (base:Nat) (dst:Option Nat) (sl:Sl) (hp:Hp) (e:Option Zb):Option (Sl×Hp):=
 bnd e fun e=>if Qn base (base+64) e.eff.adds then some (e.on dst sl hp) else none
def JX (want:Bool):AV→Option Bool
 | .d (.bool b)=>some (b==want)
 | .tup []=>some false
 | _=>none
def ZK (sl:Sl):Option (Nat×Bool)→Option Bool
 | none=>some true
 | some q=>JX q.2 (gs sl q.1)
inductive ZC where
 | skip
 | region (n:Nat) (draw:Option (List (Nat×Nat))) (ops:List CO)
 | seq (a b:ZC)
 | cond (c:Opd) (a b:ZC)
 | block (id:Nat) (c:ZC)
 | loop (c:ZC)
 | exit (id:Nat)
 | ret
 | keep (K:List Nat) (c:ZC)
 | stuck
 | link (fl:Bool) (id:Nat) (i:Opd) (j:Nat) (c:ZC)
 | melt (c:ZC)
 | peek (id:Nat) (c:ZC)
inductive ZhZ where
 | tmp (t:Nat)
 | cell (a:Nat) (g:Bool) (s:Nat)
structure Qo where
 nt:Nat
 res:List ZhZ
 body:ZC
def Zl9 (x:Option Opd):List Opd:=match x with
 | some y=>[y]
 | none=>[]
def Zr:COp→List Opd
 | .move x=>[x]
 | .assign _ x=>[x]
 | .pick c a b=>[c,a,b]
 | .alloc _ _=>[]
 | .box x=>[x]
 | .build _ ps=>ps.map fun q=>q.2.2
 | .buildSl _ xs=>xs
 | .load _ _ a=>[a]
 | .store _ _ a x=>[a,x]
 | .nilCheck x=>[x]
 | .bin _ _ x y=>[x,y]
 | .un _ x=>[x]
 | .eqA _ _ x y=>[x,y]
 | .convI _ x=>[x]
 | .convS x=>[x]
 | .fn _ cs=>cs
 | .make _ _ _ l c=>[l,c]
 | .slice _ x lo hi=>x :: (Zl9 lo++Zl9 hi)
 | .sliceS x lo hi=>x :: (Zl9 lo++Zl9 hi)
 | .slice0 x hi mx=>[x,hi,mx]
 | .shift _ x=>[x]
 | .part _ _ _ x=>[x]
 | .iaS _ x i=>[x,i]
 | .iaA _ _ x i=>[x,i]
 | .ixS x i=>[x,i]
 | .ixA _ _ _ x i=>[x,i]
 | .nth _ x=>[x]
 | .len x=>[x]
 | .lenS x=>[x]
 | .append _ _ _ _ x y=>[x,y]
 | .min x y=>[x,y]
 | .max x y=>[x,y]
 | .call f as=>f :: as
 | .slice3 _ x lo hi mx=>[x,lo,hi,mx]
 | .clear _ _ x=>[x]
 | .stuck=>[]
 | .buildT _ _ xs=>xs
 | .appT _ _ _ x y=>[x,y]
 | .asgT _ _ x=>[x]
 | .makeT _ _ _ _ l c=>[l,c]
def Zbq:COp→Bool
 | .store _ _ _ _=>true
 | _=>false
def isApp:COp→Bool
 | .append _ _ _ _ _ _=>true
 | _=>false
def Zgt (c:COp):Bool:=Zbq c || isApp c
def CO.starts (o:CO):Bool:=Zbq o.op || o.tl
def ZH (os:List CO) (i:Nat):Bool:=match os[i]? with
 | some o=>CO.starts o
 | none=>false
def WI:Opd→List Nat
 | .t n=>[n]
 | _=>[]
def Zgu:Option (Nat×Bool)→List Nat
 | some q=>[q.1]
 | none=>[]
def Xp (o:CO):List Nat:=(Zr o.op).flatMap WI++Zgu o.guard
def Qd:Option Nat→List Nat→Bool
 | some d,l=>!l.contains d
 | none,_=>true
def Wf:Option Nat→Option Nat→Bool
 | some d,some e=>d != e
 | _,_=>true
def QJ (a b:CO):Bool:=Qd a.dst (Xp b)&&Wf a.dst b.dst&&Qd b.dst (Xp a)
def Xq:Opd→Bool
 | .v a=>(Zm a).isEmpty&&!Zig a
 | _=>true
def ZjV (os:List CO) (j i:Nat):Bool:=match os[j]?,os[i]? with
 | some a,some b=>QJ a b
 | _,_=>false
def Yt:COp→Bool
 | .load _ _ _=>false
 | .store _ _ _ _=>false
 | .slice _ _ _ _=>false
 | .slice0 _ _ _=>false
 | .iaS _ _ _=>false
 | .len _=>false
 | .append _ _ _ _ _ _=>false
 | .buildSl _ _=>false
 | .buildT _ _ _=>false
 | .appT _ _ _ _ _=>false
 | .asgT _ _ _=>false
 | .makeT _ _ _ _ _ _=>false
 | .call _ _=>false
 | .slice3 _ _ _ _ _=>false
 | .clear _ _ _=>false
 | _=>true
def VJ:COp→Bool
 | .load _ _ _=>true
 | .slice _ _ _ _=>true
 | .slice0 _ _ _=>true
 | .iaS _ _ _=>true
 | .len _=>true
 | _=>false
def Zma:COp→Bool
 | .clear _ _ _=>false
 | .store _ _ _ _=>false
 | .append _ _ _ _ _ _=>false
 | .buildSl _ _=>false
 | .buildT _ _ _=>false
 | .appT _ _ _ _ _=>false
 | .asgT _ _ _=>false
 | .makeT _ _ _ _ _ _=>false
 | .call _ _=>false
 | _=>true
def Vj (os:List CO) (k:Nat):Option Nat:=match os[k]? with
 | some o=>o.dst
 | none=>none
def ZjW (os:List CO) (k:Nat):List Nat:=match os[k]? with
 | some o=>Xp o
 | none=>[]
def WJ (os:List CO) (k:Nat):Bool:=(List.range os.length).all fun q=>decide (q<k) || Qd (Vj os q) (ZjW os k)
def Xv:COp→Bool
 | .move _=>true
 | _=>false
def JY:COp→Bool
 | .append _ _ _ _ _ _=>true
 | .buildSl _ _=>true
 | _=>false
def Wq:COp→Bool
 | .call (.f _) _=>true
 | _=>false
def ZdU:COp→List Opd
 | .call _ as=>as
 | _=>[]
def Zmb:COp→Bool
 | .alloc _ _=>false
 | .box _=>false
 | .assign _ _=>false
 | .make _ _ _ _ _=>false
 | .fn _ _=>false
 | _=>true
def ZiQ:COp→Bool
 | .buildSl _ _=>true
 | _=>false
def U3:AV→Bool
 | .d _=>true
 | .nil=>true
 | .nilp=>true
 | .nili=>true
 | _=>false
def XO:List AV→Bool
 | []=>true
 | c :: r=>U3 c&&XO r
def Zfl:COp→Bool
 | .alloc _ cs=>XO cs
 | _=>false
def Zgv (c:COp):Bool:=VJ c || ZiQ c || (Yt c&&Zmb c) || Zfl c
def Zc2:COp→Bool
 | .alloc _ cs=>XO cs
 | .buildSl _ _=>true
 | .load _ _ _=>true
 | .nilCheck _=>true
 | .bin _ _ _ _=>true
 | .un _ _=>true
 | .convI _ _=>true
 | .shift _ _=>true
 | .iaS _ _ _=>true
 | .slice _ _ _ _=>true
 | .len _=>true
 | .sliceS _ _ _=>true
 | .lenS _=>true
 | _=>false
def Zqz:Option Nat→Bool
 | some _=>true
 | none=>false
def ZeZ (os:List CO) (k:Nat):Bool:=Zqz (Vj os k)&&(List.range os.length).all fun q=>q==k || Wf (Vj os q) (Vj os k)
def Zc3 (os:List CO) (j i:Nat):Bool:=WJ os j&&WJ os i
def Zpc (os:List CO) (j i:Nat) (a b:COp):Bool:=
 Zma b || (Zgt b&&(Yt a || (!Xv a&&VJ a&&Zc3 os j i))) || (Xv a&&(JY b || ZeZ os j)) || (!Xv a&&Wq b&&Zgv a&&Zc3 os j i&&ZeZ os j)
def Zpd (os:List CO) (j i:Nat) (a b:COp):Bool:=(Xv b&&ZeZ os i) || (!Xv b&&Wq a&&Zc2 b&&Zc3 os j i&&ZeZ os i)
def ZjX (os:List CO) (j i:Nat):Bool:=match os[j]?,os[i]? with
 | some a,some b=>if ZH os j then !ZH os i&&Zpd os j i a.op b.op else !ZH os i || Zpc os j i a.op b.op
 | _,_=>false
def JZ (os:List CO) (j i:Nat):Option (Nat×Nat):=match os[j]?,os[i]? with
 | some a,some b=>if ZH os j then (if Xv b.op || Wq a.op then some (i,j) else none) else
   if ZH os i&&(if Zgt b.op then !(Yt a.op) else if Xv a.op then !(JY b.op) else Wq b.op) then some (j,i) else none
 | _,_=>none
def optP:Option (Nat×Nat)→List (Nat×Nat)
 | some p=>[p]
 | none=>[]
def Wg (ops:Array Oper) (os:List CO):List (Nat×Nat):=
 (List.range ops.size).flatMap fun i=>(List.range i).flatMap fun j=>if ZaJ ops 6 i j then [] else optP (JZ os j i)
def Zgw (ops:Array Oper) (os:List CO):Bool:=
 (List.range ops.size).all (fun i=>(Ye ops i).all fun e=>decide (e<i)) &&
 (List.range ops.size).all (fun i=>(List.range i).all fun j=>(Ye ops i).contains j || ZjV os j i) &&
 (List.range ops.size).all (fun i=>(List.range i).all fun j=>ZaJ ops 6 i j || ZjX os j i) &&
 os.all (fun o=>(Zr o.op).all Xq)
def Ul (id:Nat):AV→Bool
 | .d _=>true
 | .pim _=>true
 | .nil=>true
 | .ptr k _=>k != id
 | .prow k _ _ _=>k != id
 | .own k=>k != id
 | .ownv k _ _=>k != id
 | .nilp=>true
 | .nili=>true
 | .tup []=>true
 | _=>false
def okC:AV→Bool
 | .d _=>true
 | .pim _=>true
 | .nil=>true
 | .ptr _ _=>true
 | .prow _ _ _ _=>true
 | .own _=>true
 | .ownv _ _ _=>true
 | .nilp=>true
 | .nili=>true
 | _=>false
def ZjY:List AV→Bool
 | []=>true
 | v :: r=>okC v&&ZjY r
def okV:AV→Bool
 | .agg cs=>ZjY cs
 | .tup []=>true
 | v=>okC v
def okL (sl:Sl):List Opd→Bool
 | []=>true
 | x :: r=>okV (evO sl x)&&okL sl r
def okD (sl:Sl):Option Nat→Bool
 | some t=>okV (gs sl t)
 | none=>true
def XP:AV→Option Nat
 | .ptr k _=>some k
 | .prow k _ _ _=>some k
 | _=>none
def Qk (sl:Sl) (id:Nat):List Opd→Bool
 | []=>true
 | x :: r=>Ul id (evO sl x)&&Qk sl id r
def J0 (sl:Sl) (a:COp):Option Nat→Bool
 | some id=>Qk sl id (Zr a)
 | none=>false
def Um (sl:Sl) (xs:List Opd):AV→Bool
 | .ptr k _=>Qk sl k xs
 | .prow _ _ _ _=>false
 | _=>true
def ZaL (sl:Sl) (xs:List Opd):List Opd→Bool
 | []=>true
 | y :: r=>Um sl xs (evO sl y)&&ZaL sl xs r
def VK (sl:Sl) (a:COp):AV→Bool
 | .nil=>true
 | .tup []=>true
 | .own k=>Qk sl k (Zr a)
 | .ownv k _ _=>Qk sl k (Zr a)
 | _=>false
def seenSrc (sl:Sl) (a:COp):AV→Bool
 | .own k=>Qk sl k (Zr a)
 | v=>okV v
def QX (sl:Sl) (xs:List Opd):List Nat→Bool
 | []=>true
 | k :: r=>Qk sl k xs&&QX sl xs r
def X6 (sl:Sl) (a:COp):AV→AV→Bool
 | .prow _ _ _ _,.d _=>true
 | .prow _ _ _ _,v=>okV v&&QX sl (Zr a) (Zm v)
 | _,_=>true
def Vd (sl:Sl) (d:Option Nat):COp→COp→Bool
 | .move _,_=>okD sl d
 | a,.store _ _ x y=>J0 sl a (XP (evO sl x))&&X6 sl a (evO sl x) (evO sl y)
 | a,.append _ _ _ flat x y=>VK sl a (evO sl x)&&(flat || seenSrc sl a (evO sl y))
 | a,.call _ as=>okL sl (Zr a)&&(okD sl d&&(okL sl as&&ZaL sl (Zr a) as))
 | _,_=>false
def Zc4 (os:List CO) (sl:Sl) (p:Nat×Nat):Bool:=match os[p.1]?,os[p.2]? with
 | some a,some b=>Vd sl a.dst a.op b.op
 | _,_=>false
def Yh (os:List CO) (sl:Sl):List (Nat×Nat)→Bool
 | []=>true
 | p :: r=>Zc4 os sl p&&Yh os sl r
def Q3 (M:Zg):Zg:=fun f i=>i != 99&&M f i
section
variable (C:Orc) (M:Zg)
noncomputable def J1 (nx:Nat):Nat→List CO→Sl→Hp→Option (Sl×Hp)
 | _,[],sl,hp=>some (sl,hp)
 | i,o :: rest,sl,hp=>bnd (ZK sl o.guard) fun b=>
   if b then bnd (Xf (nx+64*i) o.dst sl hp (vop C M sl hp (nx+64*i) o.op)) fun r=>J1 nx (i+1) rest r.1 r.2
   else J1 nx (i+1) rest (Zi sl o.dst (.tup [])) hp
def J2 (c:Zb):List Nat→Hp→List Nat→List Nat→Option Zb
 | [],[],[],[]=>some c
 | _,_,_,_=>none
def Un (e:Option Zb):Option Zb:=bnd e fun c=>J2 c c.gone c.eff.sets c.eff.dels c.eff.frz
noncomputable def Yk (nx i:Nat) (tail:Bool) (o:COp) (sl:Sl) (hp:Hp):Option Zb:=
 if tail then vop C M sl hp (nx+64*i) o else Un (vop C M sl hp (nx+64*i) o)
noncomputable def Vk (nx:Nat):Nat→Bool→List CO→Sl→Hp→Option (Sl×Hp)
 | _,_,[],sl,hp=>some (sl,hp)
 | i,t,o :: rest,sl,hp=>bnd (ZK sl o.guard) fun b=>
   if b then bnd (Xf (nx+64*i) o.dst sl hp (Yk C M nx i (CO.starts o) o.op sl hp)) fun r=>Vk nx (i+1) t rest r.1 r.2
   else Vk nx (i+1) t rest (Zi sl o.dst (.tup [])) hp
def WK {α:Type}:List (Nat×α)→List Nat
 | []=>[]
 | (k,_) :: r=>k :: WK r
def only {α:Type} (K:List Nat):List (Nat×α)→List (Nat×α)
 | []=>[]
 | (k,v) :: r=>if K.contains k then (k,v) :: only K r else only K r
def Yu:Nat→List Zh→Hp
 | _,[]=>[]
 | k,o :: r=>Yu (k+1) r++[(k,o)]
def ZiR:Sl→List Nat
 | []=>[]
 | (_,v) :: r=>Zm v++ZiR r
def ZjZ:Option Zh→Bool
 | some _=>true
 | none=>false
def U4 (hp:Hp) (ids:List Nat) (i:Nat):Bool:=ids.contains i&&ZjZ (lkp hp i)
def ZaM (hp:Hp) (ids:List Nat):List Nat→List Nat
 | []=>[]
 | i :: r=>if U4 hp ids i then ZaM hp ids r else i :: ZaM hp ids r
def Jt (hp:Hp) (ids:List Nat) (v:AV):AV:=ren (Yd ids) (kill (ZaM hp ids (Zm v)) v)
def ZaN (hp:Hp) (ids:List Nat) (o:Zh):Zh:=Zcu (Yd ids) (QD (ZaM hp ids (Vu o)) o)
def Zmc:Option Zh→List Nat
 | some o=>Vu o
 | none=>[]
def YI (hp:Hp):List Nat→List Nat
 | []=>[]
 | id :: r=>Zmc (lkp hp id)++YI hp r
def Vl (K:List Nat) (st:St):St:=
 let sl:=only K st.sl
 let ids:=Qu st.hp (QT st.hp) (ZiR sl++YI st.hp (List.range st.m)) (List.range st.m)
 { sl:=Zdy (Jt st.hp ids) sl,hp:=Yu 0 ((UX st.hp ids).map (ZaN st.hp ids)),nx:=ids.length,m:=st.m }
def V6 (f:St→Option (Ex×St)) (K:List Nat):Nat→St→Option (Ex×St)
 | 0,_=>none
 | n+1,st=>match f (Vl K st) with
  | some (.normal,st')=>V6 f K n st'
  | r=>r
def andThen (r:Option (Ex×St)) (k:St→Option (Ex×St)):Option (Ex×St):=match r with
 | some (.normal,st)=>k st
 | r=>r
def ZbU (v:AV) (a b:Option (Ex×St)):Option (Ex×St):=match v with
 | .d (.bool t)=>if t then a else b
 | _=>none
def ZaO (id:Nat) (r:Option (Ex×St)):Option (Ex×St):=match r with
 | some (.exit j,st)=>if j=id then some (.normal,st) else some (.exit j,st)
 | r=>r
def Zc5 (ops:List CO) (ps:List (Nat×Nat)) (r:Option (Sl×Hp)):Option (Sl×Hp):=bnd r fun r=>if Yh ops r.1 ps then some r else none
def ZbF (m nx:Nat) (r:Option (Sl×Hp)):Option (Ex×St):=bnd r fun r=>some (.normal,{ sl:=r.1,hp:=r.2,nx:=nx,m:=m })
def Zgx (K:List Nat) (r:Option (Ex×St)):Option (Ex×St):=match r with
 | some q=>some (q.1,{ q.2 with sl:=only K q.2.sl })
 | none=>none
def Zm5 (fl:Bool) (k:Nat) (ys:List D):Option Zh:=if fl then (if Vb D.flat ys then some (.row k ys true false) else none) else some (.tree k k ys none)
def Zc6 (xs:List D) (n j:Nat) (y:D):Option (List D):=bnd xs[n]? fun x=>some (xs.set n (X8 x j [y]))
def Zm6 (fl:Bool) (nx n j:Nat):Option Zh→Option (Zh×Zh)
 | some (.tree s k xs none)=>bnd (VG xs n j) fun ys=>bnd (Zm5 fl k ys) fun o=>bnd (Zc6 xs n j (.sl [])) fun xs'=>some (.tree s k xs' (some (some nx,n,j)),o)
 | _=>none
def Zpe:Option Zh→Option Int
 | some (.tree _ _ xs _)=>some ((xs.length:Int)-1)
 | _=>none
def Zj0 (st:St) (id:Nat):Opd→Option Int
 | .t n=>idx (gs st.sl n)
 | .v a=>idx a
 | .f _=>Zpe (lkp st.hp id)
def J3 (fl:Bool) (id:Nat) (i:Opd) (j:Nat) (st:St):Option St:=bnd (Zj0 st id i) fun n=>if 0≤n then bnd (Zm6 fl st.nx n.toNat j (lkp st.hp id)) fun q=>some { st with hp:=ins (ins st.hp id q.1) st.nx q.2,nx:=st.nx+64 } else none
def Zgy (k:Nat):Option Zh→Option (List D)
 | some (.row k' ys true false)=>if k'=k∧Vb D.flat ys then some ys else none
 | some (.tree k' n ys none)=>if k'=k∧n=k then some ys else none
 | _=>none
def ZeM (hp:Hp) (id nm:Nat):Option Zh→Option Hp
 | some (.tree s k xs (some (some nm',n,j)))=>if nm'=nm then bnd (Zgy k (lkp hp nm)) fun ys=>bnd (Zc6 xs n j (.sl ys)) fun xs'=>some (ins (del hp nm) id (.tree s k xs' none)) else none
 | _=>none
def Zn8 (hp:Hp):Option Hp→Hp
 | some h=>h
 | none=>hp
def Zgz (id nm:Nat) (r:Option (Ex×St)):Option (Ex×St):=match r with
 | some q=>some (q.1,{ q.2 with hp:=Zn8 q.2.hp (ZeM q.2.hp id nm (lkp q.2.hp id)) })
 | none=>none
def Zj1 (st:St):St := { st with hp:=Zdy ZcS st.hp }
def ZgA:Option Zh→Option Zh
 | some (.tree s _ xs none)=>some (.row s xs false true)
 | _=>none
def J4:AV→AV
 | .d (.int k n)=>.d (.int k n)
 | .d (.bool b)=>.d (.bool b)
 | _=>.junk
def ZgB:Option Nat→List Nat→List Nat
 | some t,l=>t :: l
 | none,l=>l
def VL:List CO→List Nat
 | []=>[]
 | o :: r=>ZgB o.dst (VL r)
def Zk7:ZC→Option (List Nat)
 | .region _ _ os=>some (VL os)
 | _=>none
def Uo (sl2:Sl):List Nat→Sl→Sl
 | [],sl=>sl
 | t :: r,sl=>Uo sl2 r (ins sl t (J4 (gs sl2 t)))
def ZdV (id:Nat) (st:St):Option St:=bnd (ZgA (lkp st.hp id)) fun o=>some { st with hp:=[(id,o)] }
def ZgC (st:St) (ds:List Nat) (r:Option (Ex×St)):Option (Ex×St):=match r with
 | some q=>some (q.1,{ q.2 with sl:=Uo q.2.sl ds st.sl,hp:=st.hp })
 | none=>none
noncomputable def Zt (N:Nat):ZC→St→Option (Ex×St)
 | .skip,st=>some (.normal,st)
 | .region n none ops,st=>ZbF st.m (st.nx+64*n) (J1 C M st.nx 0 ops st.sl st.hp)
 | .region n (some ps) ops,st=>ZbF st.m (st.nx+64*n) (Zc5 ops ps (Vk C (Q3 M) st.nx 0 false ops st.sl st.hp))
 | .seq a b,st=>andThen (Zt N a st) (Zt N b)
 | .cond c a b,st=>ZbU (evO st.sl c) (Zt N a st) (Zt N b st)
 | .block id c,st=>ZaO id (Zt N c st)
 | .loop c,st=>V6 (Zt N c) (WK st.sl) N st
 | .exit id,st=>some (.exit id,st)
 | .ret,st=>some (.ret,st)
 | .keep K c,st=>Zgx K (Zt N c st)
 | .stuck,_=>none
 | .link fl id i j c,st=>bnd (J3 fl id i j st) fun st1=>Zgz id st.nx (Zt N c st1)
 | .melt c,st=>Zt N c (Zj1 st)
 | .peek id c,st=>bnd (Zk7 c) fun ds=>bnd (ZdV id st) fun st1=>ZgC st ds (Zt N c st1)
def ZgD (st:St):ZhZ→Option AV
 | .tmp t=>some (gs st.sl t)
 | .cell a g s=>YV st.hp g s (gs st.sl a)
def Yv (m:Nat) (hp:Hp) (v:AV):AV×List Zh:=
 let ids:=Qu hp (QT hp) (Zm v++YI hp (List.range m)) (List.range m)
 (Jt hp ids v,(UX hp ids).map (ZaN hp ids))
def Zm7:AV→Bool
 | .tup _=>true
 | _=>false
def Zch:List AV→Bool
 | []=>false
 | v :: r=>Zm7 v || Zch r
def Up:List AV→AV
 | [v]=>v
 | vs=>if Zch vs then .junk else .tup vs
def Yi:Nat→List AV→Sl
 | _,[]=>[]
 | k,v :: r=>Yi (k+1) r++[(k,v)]
def U5 (m:Nat) (rs:List ZhZ) (r:Option (Ex×St)):Option (AV×List Zh):=match r with
 | some (.normal,st)=>bnd (Z7 (ZgD st) rs) fun vs=>some (Yv m st.hp (Up vs))
 | some (.ret,st)=>bnd (Z7 (ZgD st) rs) fun vs=>some (Yv m st.hp (Up vs))
 | _=>none
noncomputable def ZgE (N:Nat) (fn:Qo) (as:List AV) (h:List Zh):Option (AV×List Zh):=
 if as.length≤fn.nt then U5 h.length fn.res (Zt C M N fn.body { sl:=Yi 0 as,hp:=Yu 0 h,nx:=h.length,m:=h.length }) else none
end
inductive Fn where
 | text (f:Qo)
 | prim (p:List AV→List Zh→Option (AV×List Zh))
abbrev Fns:=Nat→Option Fn
noncomputable def ZdW (C:Orc) (M:Zg) (N:Nat) (as:List AV) (h:List Zh):Option Fn→Option (AV×List Zh)
 | some (.text f)=>ZgE C M N f as h
 | some (.prim p)=>p as h
 | none=>none
noncomputable def ZV (X:Fns) (M:Zg):Nat→Orc
 | 0,_,_,_=>none
 | n+1,f,as,h=>ZdW (ZV X M n) M n as h (X f)
open Classical in
noncomputable def lim {α:Type} (x:Nat→Option α):Option α:=if h:∃ r,∃ n,x n=some r then some h.choose else none
def Zn9 {α:Type} (x:Nat→Option α):Prop:=∀ n r,x n=some r→x (n+1)=some r
theorem Zn9.le {α:Type} {x:Nat→Option α} (h:Zn9 x) {n m:Nat} {r:α} (hr:x n=some r) (aa:n≤m):x m=some r:=by
 induction aa with
 | refl=>exact hr
 | step _ ih=>exact h _ _ ih
theorem Zci {α:Type} {x:Nat→Option α} (h:Zn9 x) {n:Nat} {r:α} (hr:x n=some r):lim x=some r:=by
 have he:∃ r,∃ n,x n=some r:=⟨r,n,hr⟩
 unfold lim;rw[dif_pos he];obtain⟨m,hm⟩:=he.choose_spec;have h1:=h.le hm (L7 m n);have h2:=h.le hr (L4 m n);rw[h1] at h2;exact h2
theorem ZaP {α:Type} {x:Nat→Option α} {r:α} (hr:lim x=some r):∃ n,x n=some r:=by
 unfold lim at hr;split at hr
 ·rename_i h;obtain⟨n,hn⟩:=h.choose_spec;exact⟨n,by rw[hn];exact hr⟩
 ·cases hr
def Orc.le (C C' : Orc):Prop:=∀ f as h r,C f as h=some r→C' f as h=some r
section
variable {M:Zg} {C C' : Orc}
theorem WL {α β:Type} {x x' : Option α} {f f' : α→Option β} {r:β} (hx:∀ a,x=some a→x'=some a) (hf:∀ a,f a=some r→f' a=some r) (h:bnd x f=some r):bnd x' f'=some r:=by
 obtain⟨a,h1,h2⟩:=Za h;rw[hx a h1];exact hf a h2
theorem Zpf (h:C.le C') {m:Nat→Bool} {hp:Hp} {base f:Nat} {aa:List AV} {r:Zb}
  (hr:UM C m hp base f aa=some r):UM C' m hp base f aa=some r:=by
 unfold UM at hr ⊢;refine WL (fun _ h=>h) (fun as hr=>?_) hr;unfold JP at hr ⊢;by_cases hc:(as.flatMap Zm).all (Qu hp (QT hp) (as.flatMap Zm) []).contains∧¬(Xh aa as).any (Qu hp (QT hp) (as.flatMap Zm) []).contains∧WX hp (as.flatMap V5) (Qu hp (QT hp) (as.flatMap Zm) [])=true
 ·rw[Kt hc] at hr ⊢;exact WL (fun q hq=>h _ _ _ _ hq) (fun _ h=>h) hr
 ·rw[Kp hc] at hr;cases hr
theorem Zj2 (h:C.le C') {sl:Sl} {hp:Hp} {base:Nat} {o:COp} {r:Zb} (hr:vop C M sl hp base o=some r) :
  vop C' M sl hp base o=some r:=by
 cases o with
 | call f as=>
  simp only[vop] at hr ⊢;cases hg:evO sl f<;>simp only[hg,U0] at hr ⊢ <;> first | exact Zpf h hr | exact hr
 | _=>exact hr
theorem Zj3 (h:C.le C') (nx:Nat):∀ (l:List CO) (i:Nat) (sl:Sl) (hp:Hp) (r:Sl×Hp),
  J1 C M nx i l sl hp=some r→J1 C' M nx i l sl hp=some r:=by
 intro l
 induction l with
 | nil=>intro i sl hp r hr;exact hr
 | cons o rest ih=>
  intro i sl hp r hr;simp only[J1] at hr ⊢;refine WL (fun _ h=>h) (fun b hr=>?_) hr;cases b
  ·simp only[Ka,Kj] at hr ⊢;exact ih _ _ _ _ hr
  ·simp only[Kl] at hr ⊢;refine WL (fun q hq=>?_) (fun q hq=>ih _ _ _ _ hq) hr;unfold Xf at hq ⊢;exact WL (fun e he=>Zj2 h he) (fun _ h=>h) hq
theorem Zm8 (h:C.le C') {nx i:Nat} {t:Bool} {o:COp} {sl:Sl} {hp:Hp} {e:Zb} (he:Yk C M nx i t o sl hp=some e) :
  Yk C' M nx i t o sl hp=some e:=by
 unfold Yk at he ⊢;cases t
 ·simp only[Ka,Kj,Un] at he ⊢;exact WL (fun _ hv=>Zj2 h hv) (fun _ h=>h) he
 ·simp only[Kl] at he ⊢;exact Zj2 h he
theorem Zc7 (h:C.le C') (nx:Nat):∀ (l:List CO) (i:Nat) (t:Bool) (sl:Sl) (hp:Hp) (r:Sl×Hp),
  Vk C M nx i t l sl hp=some r→Vk C' M nx i t l sl hp=some r:=by
 intro l
 induction l with
 | nil=>intro i t sl hp r hr;exact hr
 | cons o rest ih=>
  intro i t sl hp r hr;simp only[Vk] at hr ⊢;refine WL (fun _ h=>h) (fun b hr=>?_) hr;cases b
  ·simp only[Ka,Kj] at hr ⊢;exact ih _ _ _ _ _ hr
  ·simp only[Kl] at hr ⊢;refine WL (fun q hq=>?_) (fun q hq=>ih _ _ _ _ _ hq) hr;unfold Xf at hq ⊢;exact WL (fun e he=>Zm8 h he) (fun _ h=>h) hq
theorem Zc8 {f g:St→Option (Ex×St)} (h:∀ st r,f st=some r→g st=some r) (K:List Nat) :
  ∀ (n m:Nat) (st:St) (r:Ex×St),n≤m→V6 f K n st=some r→V6 g K m st=some r:=by
 intro n
 induction n with
 | zero=>intro m st r _ hr;simp[V6] at hr
 | succ n ih=>
  intro m st r hm hr;cases m with
  | zero=>omega
  | succ m=>
   simp only[V6] at hr ⊢;cases hf:f (Vl K st) with
   | none=>simp[hf] at hr
   | some q=>
    rw[hf] at hr;rw[h _ _ hf];obtain⟨e,aa⟩:=q;cases e with
    | normal=>exact ih m aa r (by omega) hr
    | exit id=>exact hr
    | ret=>exact hr
theorem Zfm (h:C.le C') {N N' : Nat} (hN:N≤N'):∀ (c:ZC) (st:St) (r:Ex×St),
  Zt C M N c st=some r→Zt C' M N' c st=some r:=by
 intro c
 induction c with
 | skip=>intro st r hr;simpa [Zt] using hr
 | region n draw ops=>
  intro st r hr;cases draw
  ·simp only[Zt,ZbF] at hr ⊢;exact WL (fun q hq=>Zj3 h _ _ _ _ _ _ hq) (fun _ h=>h) hr
  ·simp only[Zt,ZbF,Zc5] at hr ⊢;exact WL (fun q hq=>WL (fun q hq=>Zc7 h _ _ _ _ _ _ _ hq) (fun _ h=>h) hq) (fun _ h=>h) hr
 | seq a b iha ihb=>
  intro st r hr;simp only[Zt] at hr ⊢;cases ha:Zt C M N a st with
  | none=>simp[ha,andThen] at hr
  | some q=>
   rw[ha] at hr;rw[iha _ _ ha];obtain⟨e,aa⟩:=q;cases e with
   | normal=>exact ihb _ _ hr
   | exit id=>exact hr
   | ret=>exact hr
 | cond c a b iha ihb=>
  intro st r hr;simp only[Zt,ZbU] at hr ⊢;split at hr
  ·rename_i t ht;cases t
   ·simp only[Ka,Kj] at hr ⊢;exact ihb _ _ hr
   ·simp only[Kl] at hr ⊢;exact iha _ _ hr
  ·cases hr
 | block id c ih=>
  intro st r hr;simp only[Zt] at hr ⊢;cases hc:Zt C M N c st with
  | none=>simp[hc,ZaO] at hr
  | some q=>rw[hc] at hr;rw[ih _ _ hc];exact hr
 | loop c ih=>
  intro st r hr;simp only[Zt] at hr ⊢;exact Zc8 ih _ _ _ _ _ hN hr
 | exit id=>intro st r hr;simpa [Zt] using hr
 | ret=>intro st r hr;simpa [Zt] using hr
 | keep K c ih=>
  intro st r hr;simp only[Zt] at hr ⊢;cases hc:Zt C M N c st with
  | none=>simp[hc,Zgx] at hr
  | some q=>rw[hc] at hr;rw[ih _ _ hc];exact hr
 | stuck=>intro st r hr;simp[Zt] at hr
 | link fl id i j c ih=>
  intro st r hr;simp only[Zt] at hr ⊢;obtain⟨aa,h1,h2⟩:=Za hr;rw[h1,Zc];cases hc:Zt C M N c aa with
  | none=>simp[hc,Zgz] at h2
  | some q=>rw[hc] at h2;rw[ih _ _ hc];exact h2
 | melt c ih=>
  intro st r hr;simp only[Zt] at hr ⊢;exact ih _ r hr
 | peek id c ih=>
  intro st r hr;simp only[Zt] at hr ⊢;obtain⟨ds,h0,hr⟩:=Za hr;obtain⟨aa,h1,h2⟩:=Za hr;rw[h0,Zc,h1,Zc];cases hc:Zt C M N c aa with
  | none=>simp[hc,ZgC] at h2
  | some q=>rw[hc] at h2;rw[ih _ _ hc];exact h2
theorem Zpg (h:C.le C') {N N' : Nat} (hN:N≤N') {f:Qo} {as:List AV} {hh:List Zh} {r:AV×List Zh}
  (hr:ZgE C M N f as hh=some r):ZgE C' M N' f as hh=some r:=by
 unfold ZgE at hr ⊢;by_cases hl:as.length≤f.nt
 ·rw[Kt hl] at hr ⊢;cases hv:Zt C M N f.body { sl:=Yi 0 as,hp:=Yu 0 hh,nx:=hh.length,m:=hh.length } with
  | none=>simp[hv,U5] at hr
  | some q=>rw[hv] at hr;rw[Zfm h hN _ _ _ hv];exact hr
 ·rw[Kp hl] at hr;cases hr
end
section
variable (X:Fns) (M:Zg)
theorem ZdX:∀ n,(ZV X M n).le (ZV X M (n+1)):=by
 intro n
 induction n with
 | zero=>intro f as h r hr;simp[ZV] at hr
 | succ n ih=>
  intro f as h r hr;rw[ZV] at hr ⊢;cases hf:X f with
  | none=>rw[hf] at hr;cases hr
  | some g=>
   rw[hf] at hr;cases g with
   | text g=>exact Zpg ih (Nat.le_succ n) hr
   | prim p=>exact hr
noncomputable def Zu (f:Nat) (as:List AV) (h:List Zh):Option (AV×List Zh):=lim fun n=>ZV X M n f as h
noncomputable def Z2 (c:ZC) (st:St):Option (Ex×St):=lim fun n=>Zt (ZV X M n) M n c st
theorem UP (f:Nat) (as:List AV) (h:List Zh):Zn9 fun n=>ZV X M n f as h:=fun n r hr=>ZdX X M n f as h r hr
theorem J5 (n:Nat):(ZV X M n).le (Zu X M):=fun f as h _ hr=>Zci (UP X M f as h) hr
theorem Zcj (c:ZC) (st:St):Zn9 fun n=>Zt (ZV X M n) M n c st:=fun n r hr=>Zfm (ZdX X M n) (Nat.le_succ n) c st r hr
theorem Uq {n m:Nat} (h:n≤m):(ZV X M n).le (ZV X M m):=fun f as hh _ hr=>(UP X M f as hh).le hr h
theorem Zk8 {m:Nat→Bool} {hp:Hp} {base f:Nat} {aa:List AV} {r:Zb}
  (hr:UM (Zu X M) m hp base f aa=some r):∃ n,UM (ZV X M n) m hp base f aa=some r:=by
 unfold UM at hr ⊢;obtain⟨as,ab,hr⟩:=Za hr;simp only[ab,Zc];unfold JP at hr ⊢;by_cases hc:(as.flatMap Zm).all (Qu hp (QT hp) (as.flatMap Zm) []).contains∧¬(Xh aa as).any (Qu hp (QT hp) (as.flatMap Zm) []).contains∧WX hp (as.flatMap V5) (Qu hp (QT hp) (as.flatMap Zm) [])=true
 ·rw[Kt hc] at hr;obtain⟨q,hq,hr⟩:=Za hr;obtain⟨n,hn⟩:=ZaP hq;refine⟨n,?_⟩;rw[Kt hc,hn];exact hr
 ·rw[Kp hc] at hr;cases hr
theorem ZdY {M' : Zg} {sl:Sl} {hp:Hp} {base:Nat} {o:COp} {r:Zb} (hr:vop (Zu X M) M' sl hp base o=some r) :
  ∃ n,vop (ZV X M n) M' sl hp base o=some r:=by
 cases o with
 | call f as=>
  simp only[vop] at hr ⊢;cases hg:evO sl f<;>simp only[hg,U0] at hr ⊢ <;> first | exact Zk8 X M hr | exact⟨0,hr⟩
 | _=>exact⟨0,hr⟩
theorem Zmd (nx:Nat):∀ (l:List CO) (i:Nat) (sl:Sl) (hp:Hp) (r:Sl×Hp),
  J1 (Zu X M) M nx i l sl hp=some r→∃ n,J1 (ZV X M n) M nx i l sl hp=some r:=by
 intro l
 induction l with
 | nil=>intro i sl hp r hr;exact⟨0,hr⟩
 | cons o rest ih=>
  intro i sl hp r hr;simp only[J1] at hr ⊢;obtain⟨b,hb,hr⟩:=Za hr;simp only[hb,Zc];cases b
  ·simp only[Ka,Kj] at hr ⊢;exact ih _ _ _ _ hr
  ·simp only[Kl] at hr ⊢;obtain⟨q,hq,hr⟩:=Za hr;unfold Xf at hq;obtain⟨e,he,hq⟩:=Za hq;obtain⟨n1,h1⟩:=ZdY X M he;obtain⟨n2,h2⟩:=ih _ _ _ _ hr;refine⟨max n1 n2,?_⟩;unfold Xf;rw[Zj2 (Uq X M (L7 n1 n2)) h1,Zc,hq,Zc];exact Zj3 (Uq X M (L4 n1 n2)) _ _ _ _ _ _ h2
theorem Zme {M' : Zg} {nx i:Nat} {t:Bool} {o:COp} {sl:Sl} {hp:Hp} {e:Zb} (he:Yk (Zu X M) M' nx i t o sl hp=some e) :
  ∃ n,Yk (ZV X M n) M' nx i t o sl hp=some e:=by
 unfold Yk at he ⊢;cases t
 ·simp only[Ka,Kj,Un] at he ⊢;obtain⟨e',aa,h2⟩:=Za he;obtain⟨n,hn⟩:=ZdY X M aa;exact⟨n,by rw[hn];exact h2⟩
 ·simp only[Kl] at he ⊢;exact ZdY X M he
theorem Zk9 {M' : Zg} (nx:Nat):∀ (l:List CO) (i:Nat) (t:Bool) (sl:Sl) (hp:Hp) (r:Sl×Hp),
  Vk (Zu X M) M' nx i t l sl hp=some r→∃ n,Vk (ZV X M n) M' nx i t l sl hp=some r:=by
 intro l
 induction l with
 | nil=>intro i t sl hp r hr;exact⟨0,hr⟩
 | cons o rest ih=>
  intro i t sl hp r hr;simp only[Vk] at hr ⊢;obtain⟨b,hb,hr⟩:=Za hr;simp only[hb,Zc];cases b
  ·simp only[Ka,Kj] at hr ⊢;exact ih _ _ _ _ _ hr
  ·simp only[Kl] at hr ⊢;obtain⟨q,hq,hr⟩:=Za hr;unfold Xf at hq;obtain⟨e,he,hq⟩:=Za hq;obtain⟨n1,h1⟩:=Zme X M he;obtain⟨n2,h2⟩:=ih _ _ _ _ _ hr;refine⟨max n1 n2,?_⟩;unfold Xf;rw[Zm8 (Uq X M (L7 n1 n2)) h1,Zc,hq,Zc];exact Zc7 (Uq X M (L4 n1 n2)) _ _ _ _ _ _ _ h2
theorem Qp {c:ZC} {st:St} {n:Nat} {r:Ex×St} (h:Zt (ZV X M n) M n c st=some r):Z2 X M c st=some r:=
 Zci (Zcj X M c st) h
theorem QW {α:Type} {x:Nat→Option α} (h:∀ n,x n=none):lim x=none:=by
 cases hx:lim x with
 | none=>rfl
 | some r=>obtain⟨n,hn⟩:=ZaP hx;rw[h n] at hn;cases hn
theorem Zmf (st:St):Z2 X M .skip st=some (.normal,st):=Qp X M (n:=0) (by simp[Zt])
theorem Zmg (id:Nat) (st:St):Z2 X M (.exit id) st=some (.exit id,st):=Qp X M (n:=0) (by simp[Zt])
theorem Zoa (st:St):Z2 X M .ret st=some (.ret,st):=Qp X M (n:=0) (by simp[Zt])
theorem Zc9 (n:Nat) (ops:List CO) (st:St) :
  Z2 X M (.region n none ops) st=ZbF st.m (st.nx+64*n) (J1 (Zu X M) M st.nx 0 ops st.sl st.hp):=by
 cases h:J1 (Zu X M) M st.nx 0 ops st.sl st.hp with
 | some r=>
  obtain⟨k,hk⟩:=Zmd X M _ _ _ _ _ _ h;exact Qp X M (n:=k) (by simp only[Zt,hk,ZbF,Zc])
 | none=>
  refine QW fun k=>?_;simp only[Zt];cases hn:J1 (ZV X M k) M st.nx 0 ops st.sl st.hp with
  | none=>rfl
  | some r=>rw[Zj3 (J5 X M k) _ _ _ _ _ _ hn] at h;cases h
theorem ZgF (n:Nat) (ps:List (Nat×Nat)) (ops:List CO) (st:St) :
  Z2 X M (.region n (some ps) ops) st=ZbF st.m (st.nx+64*n) (Zc5 ops ps (Vk (Zu X M) (Q3 M) st.nx 0 false ops st.sl st.hp)):=by
 cases h:Vk (Zu X M) (Q3 M) st.nx 0 false ops st.sl st.hp with
 | some r=>
  obtain⟨k,hk⟩:=Zk9 X M _ _ _ _ _ _ _ h;cases hs:Zc5 ops ps (some r) with
  | none=>
   refine QW fun k'=>?_;simp only[Zt];cases hn:Vk (ZV X M k') (Q3 M) st.nx 0 false ops st.sl st.hp with
   | none=>rfl
   | some r' =>
    have:=Zc7 (J5 X M k') _ _ _ _ _ _ _ hn;rw[h] at this;cases this;rw[hs];rfl
  | some r'=>exact Qp X M (n:=k) (by simp only[Zt,hk,hs];rfl)
 | none=>
  refine QW fun k=>?_;simp only[Zt];cases hn:Vk (ZV X M k) (Q3 M) st.nx 0 false ops st.sl st.hp with
  | none=>rfl
  | some r=>rw[Zc7 (J5 X M k) _ _ _ _ _ _ _ hn] at h;cases h
theorem Y9 {c:ZC} {st:St} {r:Ex×St} (h:Z2 X M c st=some r):∃ n,∀ m,n≤m→Zt (ZV X M m) M m c st=some r:=by
 obtain⟨n,hn⟩:=ZaP h;exact⟨n,fun m hm=>(Zcj X M c st).le hn hm⟩
theorem Zob (a b:ZC) (st:St):Z2 X M (.seq a b) st=andThen (Z2 X M a st) (Z2 X M b):=by
 cases ha:Z2 X M a st with
 | none=>
  refine QW fun n=>?_;cases h:Zt (ZV X M n) M n a st with
  | none=>simp[Zt,h,andThen]
  | some q=>rw[Qp X M h] at ha;cases ha
 | some q=>
  obtain⟨e,aa⟩:=q;obtain⟨n,hn⟩:=Y9 X M ha;cases e with
  | normal=>
   simp only[andThen];cases hb:Z2 X M b aa with
   | none=>
    refine QW fun k=>?_;cases h:Zt (ZV X M k) M k (.seq a b) st with
    | none=>rfl
    | some q=>
     have h1:=(Zcj X M (.seq a b) st).le h (L7 k n);simp only[Zt,hn _ (L4 k n),andThen] at h1;rw[Qp X M h1] at hb;cases hb
   | some q=>
    obtain⟨m,hm⟩:=Y9 X M hb;refine Qp X M (n:=max n m) ?_;simp only[Zt,hn _ (L7 n m),andThen,hm _ (L4 n m)]
  | exit id=>exact Qp X M (n:=n) (by simp only[Zt,hn _ (Kf n),andThen])
  | ret=>exact Qp X M (n:=n) (by simp only[Zt,hn _ (Kf n),andThen])
theorem Zmh (c:Opd) (a b:ZC) (st:St) :
  Z2 X M (.cond c a b) st=ZbU (evO st.sl c) (Z2 X M a st) (Z2 X M b st):=by
 unfold ZbU;split
 ·rename_i t h;cases t
  ·simp only[Ka,Kj,Z2,Zt,h,ZbU]
  ·simp only[Kl,Z2,Zt,h,ZbU]
 ·rename_i h;refine QW fun n=>?_;simp only[Zt,ZbU]
theorem Zla (id:Nat) (c:ZC) (st:St):Z2 X M (.block id c) st=ZaO id (Z2 X M c st):=by
 cases hc:Z2 X M c st with
 | none=>
  refine QW fun n=>?_;cases h:Zt (ZV X M n) M n c st with
  | none=>simp[Zt,h,ZaO]
  | some q=>rw[Qp X M h] at hc;cases hc
 | some q=>
  obtain⟨n,hn⟩:=Y9 X M hc;cases hb:ZaO id (some q) with
  | none=>
   obtain⟨e,aa⟩:=q;cases e<;>simp[ZaO] at hb
   split at hb<;>cases hb
  | some r=>exact Qp X M (n:=n) (by simp only[Zt,hn _ (Kf n),hb])
theorem Zmi (K:List Nat) (c:ZC) (st:St):Z2 X M (.keep K c) st=Zgx K (Z2 X M c st):=by
 cases hc:Z2 X M c st with
 | none=>
  refine QW fun n=>?_;cases h:Zt (ZV X M n) M n c st with
  | none=>simp[Zt,h,Zgx]
  | some q=>rw[Qp X M h] at hc;cases hc
 | some q=>
  obtain⟨n,hn⟩:=Y9 X M hc;exact Qp X M (n:=n) (by simp only[Zt,hn _ (Kf n),Zgx])
theorem Zmj (fl:Bool) (id:Nat) (i:Opd) (j:Nat) (c:ZC) (st:St):Z2 X M (.link fl id i j c) st=bnd (J3 fl id i j st) fun st1=>Zgz id st.nx (Z2 X M c st1):=by
 cases hl:J3 fl id i j st with
 | none=>
  refine QW fun n=>?_;simp only[Zt,hl];rfl
 | some st' =>
  rw[Zc];cases hc:Z2 X M c st' with
  | none=>
   refine QW fun n=>?_;cases h:Zt (ZV X M n) M n c st' with
   | none=>simp only[Zt,hl,Zc,h];rfl
   | some q=>rw[Qp X M h] at hc;cases hc
  | some q=>
   obtain⟨n,hn⟩:=Y9 X M hc;exact Qp X M (n:=n) (by simp only[Zt,hl,Zc,hn _ (Kf n)];rfl)
theorem Zmk (c:ZC) (st:St):Z2 X M (.melt c) st=Z2 X M c (Zj1 st):=by
 cases hc:Z2 X M c (Zj1 st) with
 | none=>
  refine QW fun n=>?_;cases h:Zt (ZV X M n) M n c (Zj1 st) with
  | none=>simp only[Zt,h]
  | some q=>rw[Qp X M h] at hc;cases hc
 | some q=>
  obtain⟨n,hn⟩:=Y9 X M hc;exact Qp X M (n:=n) (by simp only[Zt,hn _ (Kf n)])
theorem Zml (id:Nat) (c:ZC) (st:St):Z2 X M (.peek id c) st=bnd (Zk7 c) fun ds=>bnd (ZdV id st) fun st1=>ZgC st ds (Z2 X M c st1):=by
 cases h0:Zk7 c with
 | none=>exact QW fun n=>by simp only[Zt,h0];rfl
 | some ds=>
  cases hl:ZdV id st with
  | none=>exact QW fun n=>by simp only[Zt,h0,hl];rfl
  | some st' =>
   rw[Zc,Zc];cases hc:Z2 X M c st' with
   | none=>
    refine QW fun n=>?_;cases h:Zt (ZV X M n) M n c st' with
    | none=>simp only[Zt,h0,hl,Zc,h];rfl
    | some q=>rw[Qp X M h] at hc;cases hc
   | some q=>
    obtain⟨n,hn⟩:=Y9 X M hc;exact Qp X M (n:=n) (by simp only[Zt,h0,hl,Zc,hn _ (Kf n)];rfl)
noncomputable def ZaQ (c:ZC) (K:List Nat) (st:St):Option (Ex×St):=lim fun n=>V6 (Zt (ZV X M n) M n c) K n st
theorem UQ (c:ZC) (K:List Nat) (st:St):Zn9 fun n=>V6 (Zt (ZV X M n) M n c) K n st:=fun n r hr=>
 Zc8 (fun _ _ h=>Zfm (ZdX X M n) (Nat.le_succ n) c _ _ h) K n (n+1) st r (Nat.le_succ n) hr
theorem Zmm (c:ZC) (st:St):Z2 X M (.loop c) st=ZaQ X M c (WK st.sl) st:=by
 simp only[Z2,ZaQ,Zt]
theorem Zlb {c:ZC} {K:List Nat} {st aa : St} (h:Z2 X M c (Vl K st)=some (.normal,aa)) :
  ZaQ X M c K st=ZaQ X M c K aa:=by
 obtain⟨n,hn⟩:=Y9 X M h;cases hl:ZaQ X M c K aa with
 | none=>
  refine QW fun k=>?_;cases hk:V6 (Zt (ZV X M k) M k c) K k st with
  | none=>rfl
  | some q=>
   have h1:=(UQ X M c K st).le hk (show k≤max k n+1 by omega);simp only[V6] at h1;rw[hn (max k n+1) (by omega)] at h1;simp only[] at h1;have h2:=Zc8 (fun _ _ h=>h) K (max k n) (max k n+1) aa q (Nat.le_succ _) h1;rw[show ZaQ X M c K aa=some q from Zci (UQ X M c K aa) h2] at hl;cases hl
 | some q=>
  obtain⟨m,hm⟩:=ZaP hl;refine Zci (UQ X M c K st) (n:=max n m+1) ?_;simp only[V6,hn (max n m+1) (by omega)];exact Zc8 (fun _ _ h=>Zfm (Uq X M (show m≤max n m+1 by omega)) (show m≤max n m+1 by omega) c _ _ h) K m (max n m) aa q (by omega) hm
theorem ZgG {c:ZC} {K:List Nat} {st aa : St} {e:Ex} (he:e≠.normal) (h:Z2 X M c (Vl K st)=some (e,aa)) :
  ZaQ X M c K st=some (e,aa):=by
 obtain⟨n,hn⟩:=Y9 X M h;refine Zci (UQ X M c K st) (n:=n+1) ?_;simp only[V6,hn (n+1) (by omega)];cases e with
 | normal=>exact absurd rfl he
 | exit id=>rfl
 | ret=>rfl
theorem Zph {f:Nat} {as:List AV} {h:List Zh} {fn:Qo} {r:AV×List Zh} (hx:X f=some (.text fn))
  (hl:as.length≤fn.nt) (hr:U5 h.length fn.res (Z2 X M fn.body { sl:=Yi 0 as,hp:=Yu 0 h,nx:=h.length,m:=h.length })=some r) :
  Zu X M f as h=some r:=by
 cases hv:Z2 X M fn.body { sl:=Yi 0 as,hp:=Yu 0 h,nx:=h.length,m:=h.length } with
 | none=>rw[hv] at hr;simp[U5] at hr
 | some q=>
  rw[hv] at hr;obtain⟨n,hn⟩:=Y9 X M hv;refine Zci (UP X M f as h) (n:=n+1) ?_;simp only[ZV,hx,ZdW,ZgE,hl,Kl,hn n (Kf n)];exact hr
theorem Zr4 {f:Nat} {as:List AV} {h:List Zh} {p:List AV→List Zh→Option (AV×List Zh)} {r:AV×List Zh} (hx:X f=some (.prim p)) (hp:p as h=some r) :
  Zu X M f as h=some r:=
 Zci (UP X M f as h) (n:=1) (by simp only[ZV,hx,ZdW,hp])
end
section
variable (P:Program)
def Yw (nt:Nat):Code→Option ZC
 | .skip=>some .skip
 | .region _ ops draw=>bnd (Z7 (ZeJ P nt ops.toList) ops.toList) fun os=>if draw then (if Zgw ops os then some (.region ops.toList.length (some (Wg ops os)) os) else some .stuck) else some (.region ops.toList.length none os)
 | .seq a b=>bnd (Yw nt a) fun a=>bnd (Yw nt b) fun b=>some (.seq a b)
 | .cond c a b=>bnd (ZI c) fun c=>bnd (Yw nt a) fun a=>bnd (Yw nt b) fun b=>some (.cond c a b)
 | .block id c=>bnd (Yw nt c) fun c=>some (.block id c)
 | .loop c=>bnd (Yw nt c) fun c=>some (.loop c)
 | .exit id=>some (.exit id)
 | .ret=>some .ret
 | _=>some .stuck
def J6:COp→COp
 | .buildT s _ xs=>.buildSl s xs
 | .asgT s _ x=>.assign (some s) x
 | .appT s b flat x y=>.append s b false flat x y
 | .makeT s b _ z l c=>.make s b z l c
 | c=>c
def ZdZ:List CO→List CO
 | []=>[]
 | o :: r => { o with op:=J6 o.op } :: ZdZ r
def ZgH:Option (List (Nat×Nat))→List CO→List CO
 | none,ops=>ZdZ ops
 | some _,ops=>ops
def Q4:ZC→ZC
 | .keep _ c=>Q4 c
 | .seq a b=>.seq (Q4 a) (Q4 b)
 | .cond c a b=>.cond c (Q4 a) (Q4 b)
 | .block id c=>.block id (Q4 c)
 | .loop c=>.loop (Q4 c)
 | .region n d ops=>.region n d (ZgH d ops)
 | .link _ _ _ _ c=>Q4 c
 | .melt c=>Q4 c
 | .peek _ c=>Q4 c
 | .skip=>.skip
 | .exit id=>.exit id
 | .ret=>.ret
 | .stuck=>.stuck
def Zd0 (cf:Qo):Qo := { nt:=cf.nt,res:=cf.res,body:=Q4 cf.body }
def cRes:ResultVar→Option ZhZ
 | .tmp t=>some (.tmp t)
 | .cell a t=>bnd (Jq P t) fun g=>some (.cell a g (P.cellsOf t))
def cFun (fn:Func):Option Qo:=bnd fn.body fun c=>bnd (Yw P fn.ntmps c) fun b=>bnd (Z7 (cRes P) fn.results.toList) fun rs=>some { nt:=fn.ntmps,res:=rs,body:=b }
end
end Go.Abs
