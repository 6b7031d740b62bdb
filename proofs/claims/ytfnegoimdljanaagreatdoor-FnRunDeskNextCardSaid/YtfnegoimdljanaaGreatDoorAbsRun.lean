import Derived.Test.YtfnegoimdljanaaGreatDoorAbsOps
set_option linter.all false
namespace Go.Abs
open Go
inductive Ex where
 | normal
 | exit (id:Nat)
 | ret
def Q9 (lo hi:Nat):Hp→Bool
 | []=>true
 | (k,_) :: r=>decide (lo≤k)&&decide (k<hi)&&Q9 (k+1) hi r
def Xn (gone:List Nat) (sl:Sl):Sl:=match gone with
 | []=>sl
 | _=>Znv (kill gone) sl
def V8 (gone:List Nat) (hp:Hp):Hp:=match gone with
 | []=>hp
 | _=>Znv (XE gone) hp
def Zs (sl:Sl) (dst:Option Nat) (v:AV):Sl:=match dst with
 | some t=>ins sl t v
 | none=>sl
def Zf.on (e:Zf) (dst:Option Nat) (sl:Sl) (hp:Hp):Sl×Hp:=
 (Zs (Xn e.gone sl) dst e.eff.val,e.eff.on (V8 e.gone hp))
def YM (base:Nat) (dst:Option Nat) (sl:Sl) (hp:Hp) (e:Option Zf):Option (Sl×Hp):=
 bnd e fun e=>if Q9 base (base+64) e.eff.adds then some (e.on dst sl hp) else none
def ZfK (want:Bool):AV→Option Bool
 | .d (.bool b)=>some (b==want)
 | .tup []=>some false
 | _=>none
def Z2 (sl:Sl):Option (Nat×Bool)→Option Bool
 | none=>some true
 | some q=>ZfK q.2 (gs sl q.1)
inductive ZN where
 | skip
 | region (n:Nat) (draw:Option (List (Nat×Nat))) (ops:List CO)
 | seq (a b:ZN)
 | cond (c:Opd) (a b:ZN)
 | block (id:Nat) (c:ZN)
 | loop (c:ZN)
 | exit (id:Nat)
 | ret
 | keep (K:List Nat) (c:ZN)
 | stuck
 | link (fl:Bool) (id:Nat) (i:Opd) (j:Nat) (c:ZN)
 | melt (c:ZN)
 | peek (id:Nat) (c:ZN)
inductive Zrh where
 | tmp (t:Nat)
 | cell (a:Nat) (g:Bool) (s:Nat)
structure Zp where
 nt:Nat
 res:List Zrh
 body:ZN
def ZlV (x:Option Opd):List Opd:=match x with
 | some y=>[y]
 | none=>[]
def ZF:COp→List Opd
 | .move x=>[x]
 | .assign _ x=>[x]
 | .pick c a b=>[c,a,b]
 | .alloc _ _=>[]
 | .box x=>[x]
 | .build _ ps=>ps.map fun q=>q.2.2
 | .buildSl _ xs=>xs
 | .load _ _ a=>[a]
 | .store _ _ a x=>[a,x]
 | .nilCheck x=>[x]
 | .bin _ _ x y=>[x,y]
 | .un _ x=>[x]
 | .eqA _ _ x y=>[x,y]
 | .convI _ x=>[x]
 | .convS x=>[x]
 | .fn _ cs=>cs
 | .make _ _ _ l c=>[l,c]
 | .slice _ x lo hi=>x :: (ZlV lo++ZlV hi)
 | .sliceS x lo hi=>x :: (ZlV lo++ZlV hi)
 | .slice0 x hi mx=>[x,hi,mx]
 | .shift _ x=>[x]
 | .part _ _ _ x=>[x]
 | .iaS _ x i=>[x,i]
 | .iaA _ _ x i=>[x,i]
 | .ixS x i=>[x,i]
 | .ixA _ _ _ x i=>[x,i]
 | .nth _ x=>[x]
 | .len x=>[x]
 | .lenS x=>[x]
 | .append _ _ _ _ x y=>[x,y]
 | .min x y=>[x,y]
 | .max x y=>[x,y]
 | .call f as1=>f :: as1
 | .slice3 _ x lo hi mx=>[x,lo,hi,mx]
 | .clear _ _ x=>[x]
 | .stuck=>[]
 | .buildT _ _ xs=>xs
 | .appT _ _ _ x y=>[x,y]
 | .asgT _ _ x=>[x]
 | .makeT _ _ _ _ l c=>[l,c]
def Zjh:COp→Bool
 | .store _ _ _ _=>true
 | _=>false
def isApp:COp→Bool
 | .append _ _ _ _ _ _=>true
 | _=>false
def Zri (c:COp):Bool:=Zjh c || isApp c
def CO.starts (o:CO):Bool:=Zjh o.op || o.tl
def ZX (os:List CO) (i:Nat):Bool:=match os[i]? with
 | some o=>CO.starts o
 | none=>false
def W6:Opd→List Nat
 | .t n=>[n]
 | _=>[]
def Zrj:Option (Nat×Bool)→List Nat
 | some q=>[q.1]
 | none=>[]
def looks (o:CO):List Nat:=(ZF o.op).flatMap W6++Zrj o.guard
def QT:Option Nat→List Nat→Bool
 | some d,l=>!l.contains d
 | none,_=>true
def Zac:Option Nat→Option Nat→Bool
 | some d,some e=>d != e
 | _,_=>true
def XL (a b:CO):Bool:=QT a.dst (looks b)&&Zac a.dst b.dst&&QT b.dst (looks a)
def Y6:Opd→Bool
 | .v a=>(Zy a).isEmpty&&!Zus a
 | _=>true
def ZvT (os:List CO) (j i:Nat):Bool:=match os[j]?,os[i]? with
 | some a,some b=>XL a b
 | _,_=>false
def Wp:COp→Bool
 | .load _ _ _=>false
 | .store _ _ _ _=>false
 | .slice _ _ _ _=>false
 | .slice0 _ _ _=>false
 | .iaS _ _ _=>false
 | .len _=>false
 | .append _ _ _ _ _ _=>false
 | .buildSl _ _=>false
 | .buildT _ _ _=>false
 | .appT _ _ _ _ _=>false
 | .asgT _ _ _=>false
 | .makeT _ _ _ _ _ _=>false
 | .call _ _=>false
 | .slice3 _ _ _ _ _=>false
 | .clear _ _ _=>false
 | _=>true
def Jj:COp→Bool
 | .load _ _ _=>true
 | .slice _ _ _ _=>true
 | .slice0 _ _ _=>true
 | .iaS _ _ _=>true
 | .len _=>true
 | _=>false
def Zza:COp→Bool
 | .clear _ _ _=>false
 | .store _ _ _ _=>false
 | .append _ _ _ _ _ _=>false
 | .buildSl _ _=>false
 | .buildT _ _ _=>false
 | .appT _ _ _ _ _=>false
 | .asgT _ _ _=>false
 | .makeT _ _ _ _ _ _=>false
 | .call _ _=>false
 | _=>true
def UU (os:List CO) (k:Nat):Option Nat:=match os[k]? with
 | some o=>o.dst
 | none=>none
def ZvU (os:List CO) (k:Nat):List Nat:=match os[k]? with
 | some o=>looks o
 | none=>[]
def ZaZ (os:List CO) (k:Nat):Bool:=(List.range os.length).all fun q=>decide (q<k) || QT (UU os q) (ZvU os k)
def Y8:COp→Bool
 | .move _=>true
 | _=>false
def ZfL:COp→Bool
 | .append _ _ _ _ _ _=>true
 | .buildSl _ _=>true
 | _=>false
def Zau:COp→Bool
 | .call (.f _) _=>true
 | _=>false
def ZnA:COp→List Opd
 | .call _ as1=>as1
 | _=>[]
def Zzb:COp→Bool
 | .alloc _ _=>false
 | .box _=>false
 | .assign _ _=>false
 | .make _ _ _ _ _=>false
 | .fn _ _=>false
 | _=>true
def Zuw:COp→Bool
 | .buildSl _ _=>true
 | _=>false
def ZdV:AV→Bool
 | .d _=>true
 | .nil=>true
 | .nilp=>true
 | .nili=>true
 | _=>false
def VG:List AV→Bool
 | []=>true
 | c :: r=>ZdV c&&VG r
def Zqa:COp→Bool
 | .alloc _ cs=>VG cs
 | _=>false
def Zrk (c:COp):Bool:=Jj c || Zuw c || (Wp c&&Zzb c) || Zqa c
def ZlW:COp→Bool
 | .alloc _ cs=>VG cs
 | .buildSl _ _=>true
 | .load _ _ _=>true
 | .nilCheck _=>true
 | .bin _ _ _ _=>true
 | .un _ _=>true
 | .convI _ _=>true
 | .shift _ _=>true
 | .iaS _ _ _=>true
 | .slice _ _ _ _=>true
 | .len _=>true
 | .sliceS _ _ _=>true
 | .lenS _=>true
 | _=>false
def ZEE:Option Nat→Bool
 | some _=>true
 | none=>false
def Zpv (os:List CO) (k:Nat):Bool:=ZEE (UU os k)&&(List.range os.length).all fun q=>q==k || Zac (UU os q) (UU os k)
def ZlX (os:List CO) (j i:Nat):Bool:=ZaZ os j&&ZaZ os i
def ZDc (os:List CO) (j i:Nat) (a b:COp):Bool:=
 Zza b || (Zri b&&(Wp a || (!Y8 a&&Jj a&&ZlX os j i))) || (Y8 a&&(ZfL b || Zpv os j)) || (!Y8 a&&Zau b&&Zrk a&&ZlX os j i&&Zpv os j)
def ZDd (os:List CO) (j i:Nat) (a b:COp):Bool:=(Y8 b&&Zpv os i) || (!Y8 b&&Zau a&&ZlW b&&ZlX os j i&&Zpv os i)
def ZvV (os:List CO) (j i:Nat):Bool:=match os[j]?,os[i]? with
 | some a,some b=>if ZX os j then !ZX os i&&ZDd os j i a.op b.op else !ZX os i || ZDc os j i a.op b.op
 | _,_=>false
def ZfM (os:List CO) (j i:Nat):Option (Nat×Nat):=match os[j]?,os[i]? with
 | some a,some b=>if ZX os j then (if Y8 b.op || Zau a.op then some (i,j) else none) else
   if ZX os i&&(if Zri b.op then !(Wp a.op) else if Y8 a.op then !(ZfL b.op) else Zau b.op) then some (j,i) else none
 | _,_=>none
def optP:Option (Nat×Nat)→List (Nat×Nat)
 | some p=>[p]
 | none=>[]
def Zad (ops:Array Oper) (os:List CO):List (Nat×Nat):=
 (List.range ops.size).flatMap fun i=>(List.range i).flatMap fun j=>if ZhK ops 6 i j then [] else optP (ZfM os j i)
def Zrl (ops:Array Oper) (os:List CO):Bool:=
 (List.range ops.size).all (fun i=>(V6 ops i).all fun e=>decide (e<i)) &&
 (List.range ops.size).all (fun i=>(List.range i).all fun j=>(V6 ops i).contains j || ZvT os j i) &&
 (List.range ops.size).all (fun i=>(List.range i).all fun j=>ZhK ops 6 i j || ZvV os j i) &&
 os.all (fun o=>(ZF o.op).all Y6)
def Zcg (id:Nat):AV→Bool
 | .d _=>true
 | .pim _=>true
 | .nil=>true
 | .ptr k _=>k != id
 | .prow k _ _ _=>k != id
 | .own k=>k != id
 | .ownv k _ _=>k != id
 | .nilp=>true
 | .nili=>true
 | .tup []=>true
 | _=>false
def okC:AV→Bool
 | .d _=>true
 | .pim _=>true
 | .nil=>true
 | .ptr _ _=>true
 | .prow _ _ _ _=>true
 | .own _=>true
 | .ownv _ _ _=>true
 | .nilp=>true
 | .nili=>true
 | _=>false
def ZvW:List AV→Bool
 | []=>true
 | v :: r=>okC v&&ZvW r
def okV:AV→Bool
 | .agg cs=>ZvW cs
 | .tup []=>true
 | v=>okC v
def okL (sl:Sl):List Opd→Bool
 | []=>true
 | x :: r=>okV (evO sl x)&&okL sl r
def okD (sl:Sl):Option Nat→Bool
 | some t=>okV (gs sl t)
 | none=>true
def VH:AV→Option Nat
 | .ptr k _=>some k
 | .prow k _ _ _=>some k
 | _=>none
def Q3 (sl:Sl) (id:Nat):List Opd→Bool
 | []=>true
 | x :: r=>Zcg id (evO sl x)&&Q3 sl id r
def ZfN (sl:Sl) (a:COp):Option Nat→Bool
 | some id=>Q3 sl id (ZF a)
 | none=>false
def Zch (sl:Sl) (xs:List Opd):AV→Bool
 | .ptr k _=>Q3 sl k xs
 | .prow _ _ _ _=>false
 | _=>true
def ZhL (sl:Sl) (xs:List Opd):List Opd→Bool
 | []=>true
 | y :: r=>Zch sl xs (evO sl y)&&ZhL sl xs r
def Jk (sl:Sl) (a:COp):AV→Bool
 | .nil=>true
 | .tup []=>true
 | .own k=>Q3 sl k (ZF a)
 | .ownv k _ _=>Q3 sl k (ZF a)
 | _=>false
def seenSrc (sl:Sl) (a:COp):AV→Bool
 | .own k=>Q3 sl k (ZF a)
 | v=>okV v
def Yd (sl:Sl) (xs:List Opd):List Nat→Bool
 | []=>true
 | k :: r=>Q3 sl k xs&&Yd sl xs r
def VZ (sl:Sl) (a:COp):AV→AV→Bool
 | .prow _ _ _ _,.d _=>true
 | .prow _ _ _ _,v=>okV v&&Yd sl (ZF a) (Zy v)
 | _,_=>true
def UK (sl:Sl) (d:Option Nat):COp→COp→Bool
 | .move _,_=>okD sl d
 | a,.store _ _ x y=>ZfN sl a (VH (evO sl x))&&VZ sl a (evO sl x) (evO sl y)
 | a,.append _ _ _ flat x y=>Jk sl a (evO sl x)&&(flat || seenSrc sl a (evO sl y))
 | a,.call _ as1=>okL sl (ZF a)&&(okD sl d&&(okL sl as1&&ZhL sl (ZF a) as1))
 | _,_=>false
def ZlY (os:List CO) (sl:Sl) (p:Nat×Nat):Bool:=match os[p.1]?,os[p.2]? with
 | some a,some b=>UK sl a.dst a.op b.op
 | _,_=>false
def V9 (os:List CO) (sl:Sl):List (Nat×Nat)→Bool
 | []=>true
 | p :: r=>ZlY os sl p&&V9 os sl r
def Yq (M:Zr):Zr:=fun f i=>i != 99&&M f i
section
variable (C:Orc) (M:Zr)
noncomputable def ZfO (nx:Nat):Nat→List CO→Sl→Hp→Option (Sl×Hp)
 | _,[],sl,hp=>some (sl,hp)
 | i,o :: rest,sl,hp=>bnd (Z2 sl o.guard) fun b=>
   if b then bnd (YM (nx+64*i) o.dst sl hp (vop C M sl hp (nx+64*i) o.op)) fun r=>ZfO nx (i+1) rest r.1 r.2
   else ZfO nx (i+1) rest (Zs sl o.dst (.tup [])) hp
def ZfP (c:Zf):List Nat→Hp→List Nat→List Nat→Option Zf
 | [],[],[],[]=>some c
 | _,_,_,_=>none
def Zci (e:Option Zf):Option Zf:=bnd e fun c=>ZfP c c.gone c.eff.sets c.eff.dels c.eff.frz
noncomputable def We (nx i:Nat) (tail:Bool) (o:COp) (sl:Sl) (hp:Hp):Option Zf:=
 if tail then vop C M sl hp (nx+64*i) o else Zci (vop C M sl hp (nx+64*i) o)
noncomputable def UV (nx:Nat):Nat→Bool→List CO→Sl→Hp→Option (Sl×Hp)
 | _,_,[],sl,hp=>some (sl,hp)
 | i,t,o :: rest,sl,hp=>bnd (Z2 sl o.guard) fun b=>
   if b then bnd (YM (nx+64*i) o.dst sl hp (We C M nx i (CO.starts o) o.op sl hp)) fun r=>UV nx (i+1) t rest r.1 r.2
   else UV nx (i+1) t rest (Zs sl o.dst (.tup [])) hp
def Za0 {α:Type}:List (Nat×α)→List Nat
 | []=>[]
 | (k,_) :: r=>k :: Za0 r
def only {α:Type} (K:List Nat):List (Nat×α)→List (Nat×α)
 | []=>[]
 | (k,v) :: r=>if K.contains k then (k,v) :: only K r else only K r
def Wf:Nat→List Zm→Hp
 | _,[]=>[]
 | k,o :: r=>Wf (k+1) r++[(k,o)]
def Zux:Sl→List Nat
 | []=>[]
 | (_,v) :: r=>Zy v++Zux r
def ZvX:Option Zm→Bool
 | some _=>true
 | none=>false
def ZdW (hp:Hp) (ids:List Nat) (i:Nat):Bool:=ids.contains i&&ZvX (lkp hp i)
def ZhM (hp:Hp) (ids:List Nat):List Nat→List Nat
 | []=>[]
 | i :: r=>if ZdW hp ids i then ZhM hp ids r else i :: ZhM hp ids r
def ZeY (hp:Hp) (ids:List Nat) (v:AV):AV:=ren (V5 ids) (kill (ZhM hp ids (Zy v)) v)
def ZhN (hp:Hp) (ids:List Nat) (o:Zm):Zm:=ZlJ (V5 ids) (XE (ZhM hp ids (Jb o)) o)
def Zzc:Option Zm→List Nat
 | some o=>Jb o
 | none=>[]
def WM (hp:Hp):List Nat→List Nat
 | []=>[]
 | id :: r=>Zzc (lkp hp id)++WM hp r
def UW (K:List Nat) (st:St):St:=
 let sl:=only K st.sl
 let ids:=Xi st.hp (X6 st.hp) (Zux sl++WM st.hp (List.range st.m)) (List.range st.m)
 { sl:=Znv (ZeY st.hp ids) sl,hp:=Wf 0 ((ZdR st.hp ids).map (ZhN st.hp ids)),nx:=ids.length,m:=st.m }
def J2 (f:St→Option (Ex×St)) (K:List Nat):Nat→St→Option (Ex×St)
 | 0,_=>none
 | n+1,st=>match f (UW K st) with
  | some (.normal,st')=>J2 f K n st'
  | r=>r
def andThen (r:Option (Ex×St)) (k:St→Option (Ex×St)):Option (Ex×St):=match r with
 | some (.normal,st)=>k st
 | r=>r
def ZjY (v:AV) (a b:Option (Ex×St)):Option (Ex×St):=match v with
 | .d (.bool t)=>if t then a else b
 | _=>none
def ZhO (id:Nat) (r:Option (Ex×St)):Option (Ex×St):=match r with
 | some (.exit j,st)=>if j=id then some (.normal,st) else some (.exit j,st)
 | r=>r
def ZlZ (ops:List CO) (ps:List (Nat×Nat)) (r:Option (Sl×Hp)):Option (Sl×Hp):=bnd r fun r=>if V9 ops r.1 ps then some r else none
def ZjH (m nx:Nat) (r:Option (Sl×Hp)):Option (Ex×St):=bnd r fun r=>some (.normal,{ sl:=r.1,hp:=r.2,nx:=nx,m:=m })
def Zrm (K:List Nat) (r:Option (Ex×St)):Option (Ex×St):=match r with
 | some q=>some (q.1,{ q.2 with sl:=only K q.2.sl })
 | none=>none
def ZAG (fl:Bool) (k:Nat) (ys:List D):Option Zm:=if fl then (if JY D.flat ys then some (.row k ys true false) else none) else some (.tree k k ys none)
def Zl0 (xs:List D) (n j:Nat) (y:D):Option (List D):=bnd xs[n]? fun x=>some (xs.set n (Vs x j [y]))
def ZAH (fl:Bool) (nx n j:Nat):Option Zm→Option (Zm×Zm)
 | some (.tree s k xs none)=>bnd (Ji xs n j) fun ys=>bnd (ZAG fl k ys) fun o=>bnd (Zl0 xs n j (.sl [])) fun xs'=>some (.tree s k xs' (some (some nx,n,j)),o)
 | _=>none
def ZDe:Option Zm→Option Int
 | some (.tree _ _ xs _)=>some ((xs.length:Int)-1)
 | _=>none
def ZvY (st:St) (id:Nat):Opd→Option Int
 | .t n=>idx (gs st.sl n)
 | .v a=>idx a
 | .f _=>ZDe (lkp st.hp id)
def ZfQ (fl:Bool) (id:Nat) (i:Opd) (j:Nat) (st:St):Option St:=bnd (ZvY st id i) fun n=>if 0≤n then bnd (ZAH fl st.nx n.toNat j (lkp st.hp id)) fun q=>some { st with hp:=ins (ins st.hp id q.1) st.nx q.2,nx:=st.nx+64 } else none
def Zrn (k:Nat):Option Zm→Option (List D)
 | some (.row k' ys true false)=>if k'=k∧JY D.flat ys then some ys else none
 | some (.tree k' n ys none)=>if k'=k∧n=k then some ys else none
 | _=>none
def ZoU (hp:Hp) (id nm:Nat):Option Zm→Option Hp
 | some (.tree s k xs (some (some nm',n,j)))=>if nm'=nm then bnd (Zrn k (lkp hp nm)) fun ys=>bnd (Zl0 xs n j (.sl ys)) fun xs'=>some (ins (del hp nm) id (.tree s k xs' none)) else none
 | _=>none
def ZBS (hp:Hp):Option Hp→Hp
 | some h=>h
 | none=>hp
def Zro (id nm:Nat) (r:Option (Ex×St)):Option (Ex×St):=match r with
 | some q=>some (q.1,{ q.2 with hp:=ZBS q.2.hp (ZoU q.2.hp id nm (lkp q.2.hp id)) })
 | none=>none
def ZvZ (st:St):St := { st with hp:=Znv ZlS st.hp }
def Zrp:Option Zm→Option Zm
 | some (.tree s _ xs none)=>some (.row s xs false true)
 | _=>none
def ZfR:AV→AV
 | .d (.int k n)=>.d (.int k n)
 | .d (.bool b)=>.d (.bool b)
 | _=>.junk
def Zpw:Option Nat→List Nat→List Nat
 | some t,l=>t :: l
 | none,l=>l
def Jl:List CO→List Nat
 | []=>[]
 | o :: r=>Zpw o.dst (Jl r)
def Zxp:ZN→Option (List Nat)
 | .region _ _ os=>some (Jl os)
 | _=>none
def Zcj (sl2:Sl):List Nat→Sl→Sl
 | [],sl=>sl
 | t :: r,sl=>Zcj sl2 r (ins sl t (ZfR (gs sl2 t)))
def ZnB (id:Nat) (st:St):Option St:=bnd (Zrp (lkp st.hp id)) fun o=>some { st with hp:=[(id,o)] }
def Zrq (st:St) (ds:List Nat) (r:Option (Ex×St)):Option (Ex×St):=match r with
 | some q=>some (q.1,{ q.2 with sl:=Zcj q.2.sl ds st.sl,hp:=st.hp })
 | none=>none
noncomputable def ZG (N:Nat):ZN→St→Option (Ex×St)
 | .skip,st=>some (.normal,st)
 | .region n none ops,st=>ZjH st.m (st.nx+64*n) (ZfO C M st.nx 0 ops st.sl st.hp)
 | .region n (some ps) ops,st=>ZjH st.m (st.nx+64*n) (ZlZ ops ps (UV C (Yq M) st.nx 0 false ops st.sl st.hp))
 | .seq a b,st=>andThen (ZG N a st) (ZG N b)
 | .cond c a b,st=>ZjY (evO st.sl c) (ZG N a st) (ZG N b st)
 | .block id c,st=>ZhO id (ZG N c st)
 | .loop c,st=>J2 (ZG N c) (Za0 st.sl) N st
 | .exit id,st=>some (.exit id,st)
 | .ret,st=>some (.ret,st)
 | .keep K c,st=>Zrm K (ZG N c st)
 | .stuck,_=>none
 | .link fl id i j c,st=>bnd (ZfQ fl id i j st) fun st1=>Zro id st.nx (ZG N c st1)
 | .melt c,st=>ZG N c (ZvZ st)
 | .peek id c,st=>bnd (Zxp c) fun ds=>bnd (ZnB id st) fun st1=>Zrq st ds (ZG N c st1)
def Zrr (st:St):Zrh→Option AV
 | .tmp t=>some (gs st.sl t)
 | .cell a g s=>Ue st.hp g s (gs st.sl a)
def Wq (m:Nat) (hp:Hp) (v:AV):AV×List Zm:=
 let ids:=Xi hp (X6 hp) (Zy v++WM hp (List.range m)) (List.range m)
 (ZeY hp ids v,(ZdR hp ids).map (ZhN hp ids))
def ZAI:AV→Bool
 | .tup _=>true
 | _=>false
def ZkO:List AV→Bool
 | []=>false
 | v :: r=>ZAI v || ZkO r
def Zck:List AV→AV
 | [v]=>v
 | vs=>if ZkO vs then .junk else .tup vs
def Wa:Nat→List AV→Sl
 | _,[]=>[]
 | k,v :: r=>Wa (k+1) r++[(k,v)]
def ZdX (m:Nat) (rs:List Zrh) (r:Option (Ex×St)):Option (AV×List Zm):=match r with
 | some (.normal,st)=>bnd (QJ (Zrr st) rs) fun vs=>some (Wq m st.hp (Zck vs))
 | some (.ret,st)=>bnd (QJ (Zrr st) rs) fun vs=>some (Wq m st.hp (Zck vs))
 | _=>none
noncomputable def Zrs (N:Nat) (fn:Zp) (as1:List AV) (h:List Zm):Option (AV×List Zm):=
 if as1.length≤fn.nt then ZdX h.length fn.res (ZG C M N fn.body { sl:=Wa 0 as1,hp:=Wf 0 h,nx:=h.length,m:=h.length }) else none
end
inductive Fn where
 | text (f:Zp)
 | prim (p:List AV→List Zm→Option (AV×List Zm))
abbrev Fns:=Nat→Option Fn
noncomputable def ZnC (C:Orc) (M:Zr) (N:Nat) (as1:List AV) (h:List Zm):Option Fn→Option (AV×List Zm)
 | some (.text f)=>Zrs C M N f as1 h
 | some (.prim p)=>p as1 h
 | none=>none
noncomputable def Qp (X:Fns) (M:Zr):Nat→Orc
 | 0,_,_,_=>none
 | n+1,f,as1,h=>ZnC (Qp X M n) M n as1 h (X f)
open Classical in
noncomputable def lim {α:Type} (x:Nat→Option α):Option α:=if h:∃ r,∃ n,x n=some r then some h.choose else none
def ZBT {α:Type} (x:Nat→Option α):Prop:=∀ n r,x n=some r→x (n+1)=some r
theorem ZBT.le {α:Type} {x:Nat→Option α} (h:ZBT x) {n m:Nat} {r:α} (hr:x n=some r) (aa:n≤m):x m=some r:=by
 induction aa with
 | refl=>exact hr
 | step _ ih=>exact h _ _ ih
theorem ZkP {α:Type} {x:Nat→Option α} (h:ZBT x) {n:Nat} {r:α} (hr:x n=some r):lim x=some r:=by
 have he:∃ r,∃ n,x n=some r:=⟨r,n,hr⟩
 unfold lim;rw[dif_pos he];obtain⟨m,hm⟩:=he.choose_spec;have h1:=h.le hm (KaA m n);have h2:=h.le hr (Kay m n);rw[h1] at h2;exact h2
theorem ZhP {α:Type} {x:Nat→Option α} {r:α} (hr:lim x=some r):∃ n,x n=some r:=by
 unfold lim at hr;split at hr
 ·rename_i h;obtain⟨n,hn⟩:=h.choose_spec;exact⟨n,by rw[hn];exact hr⟩
 ·cases hr
def Orc.le (C C' : Orc):Prop:=∀ f as1 h r,C f as1 h=some r→C' f as1 h=some r
section
variable {M:Zr} {C C' : Orc}
theorem Za1 {α β:Type} {x x' : Option α} {f f' : α→Option β} {r:β} (hx:∀ a,x=some a→x'=some a) (hf:∀ a,f a=some r→f' a=some r) (h:bnd x f=some r):bnd x' f'=some r:=by
 obtain⟨a,h1,h2⟩:=Za h;rw[hx a h1];exact hf a h2
theorem ZDf (h:C.le C') {m:Nat→Bool} {hp:Hp} {base f:Nat} {aa:List AV} {r:Zf}
  (hr:Zdr C m hp base f aa=some r):Zdr C' m hp base f aa=some r:=by
 unfold Zdr at hr ⊢;refine Za1 (fun _ h=>h) (fun as1 hr=>?_) hr;unfold ZfG at hr ⊢;by_cases hc:(as1.flatMap Zy).all (Xi hp (X6 hp) (as1.flatMap Zy) []).contains∧¬(YV aa as1).any (Xi hp (X6 hp) (as1.flatMap Zy) []).contains∧Zbu hp (as1.flatMap J1) (Xi hp (X6 hp) (as1.flatMap Zy) [])=true
 ·rw[Kg hc] at hr ⊢;exact Za1 (fun q hq=>h _ _ _ _ hq) (fun _ h=>h) hr
 ·rw[Kd hc] at hr;cases hr
theorem Zv0 (h:C.le C') {sl:Sl} {hp:Hp} {base:Nat} {o:COp} {r:Zf} (hr:vop C M sl hp base o=some r) :
  vop C' M sl hp base o=some r:=by
 cases o with
 | call f as1=>
  simp only[vop] at hr ⊢;cases hg:evO sl f<;>simp only[hg,ZdU] at hr ⊢ <;> first | exact ZDf h hr | exact hr
 | _=>exact hr
theorem Zv1 (h:C.le C') (nx:Nat):∀ (l:List CO) (i:Nat) (sl:Sl) (hp:Hp) (r:Sl×Hp),
  ZfO C M nx i l sl hp=some r→ZfO C' M nx i l sl hp=some r:=by
 intro l
 induction l with
 | nil=>intro i sl hp r hr;exact hr
 | cons o rest ih=>
  intro i sl hp r hr;simp only[ZfO] at hr ⊢;refine Za1 (fun _ h=>h) (fun b hr=>?_) hr;cases b
  ·simp only[Ka,Kn] at hr ⊢;exact ih _ _ _ _ hr
  ·simp only[Km] at hr ⊢;refine Za1 (fun q hq=>?_) (fun q hq=>ih _ _ _ _ hq) hr;unfold YM at hq ⊢;exact Za1 (fun e he=>Zv0 h he) (fun _ h=>h) hq
theorem ZAJ (h:C.le C') {nx i:Nat} {t:Bool} {o:COp} {sl:Sl} {hp:Hp} {e:Zf} (he:We C M nx i t o sl hp=some e) :
  We C' M nx i t o sl hp=some e:=by
 unfold We at he ⊢;cases t
 ·simp only[Ka,Kn,Zci] at he ⊢;exact Za1 (fun _ hv=>Zv0 h hv) (fun _ h=>h) he
 ·simp only[Km] at he ⊢;exact Zv0 h he
theorem Zl1 (h:C.le C') (nx:Nat):∀ (l:List CO) (i:Nat) (t:Bool) (sl:Sl) (hp:Hp) (r:Sl×Hp),
  UV C M nx i t l sl hp=some r→UV C' M nx i t l sl hp=some r:=by
 intro l
 induction l with
 | nil=>intro i t sl hp r hr;exact hr
 | cons o rest ih=>
  intro i t sl hp r hr;simp only[UV] at hr ⊢;refine Za1 (fun _ h=>h) (fun b hr=>?_) hr;cases b
  ·simp only[Ka,Kn] at hr ⊢;exact ih _ _ _ _ _ hr
  ·simp only[Km] at hr ⊢;refine Za1 (fun q hq=>?_) (fun q hq=>ih _ _ _ _ _ hq) hr;unfold YM at hq ⊢;exact Za1 (fun e he=>ZAJ h he) (fun _ h=>h) hq
theorem Zl2 {f g:St→Option (Ex×St)} (h:∀ st r,f st=some r→g st=some r) (K:List Nat) :
  ∀ (n m:Nat) (st:St) (r:Ex×St),n≤m→J2 f K n st=some r→J2 g K m st=some r:=by
 intro n
 induction n with
 | zero=>intro m st r _ hr;simp[J2] at hr
 | succ n ih=>
  intro m st r hm hr;cases m with
  | zero=>omega
  | succ m=>
   simp only[J2] at hr ⊢;cases hf:f (UW K st) with
   | none=>simp[hf] at hr
   | some q=>
    rw[hf] at hr;rw[h _ _ hf];obtain⟨e,aa⟩:=q;cases e with
    | normal=>exact ih m aa r o_ hr
    | exit id=>exact hr
    | ret=>exact hr
theorem Zqb (h:C.le C') {N N' : Nat} (hN:N≤N'):∀ (c:ZN) (st:St) (r:Ex×St),
  ZG C M N c st=some r→ZG C' M N' c st=some r:=by
 intro c
 induction c with
 | skip=>intro st r hr;simpa [ZG] using hr
 | region n draw ops=>
  intro st r hr;cases draw
  ·simp only[ZG,ZjH] at hr ⊢;exact Za1 (fun q hq=>Zv1 h _ _ _ _ _ _ hq) (fun _ h=>h) hr
  ·simp only[ZG,ZjH,ZlZ] at hr ⊢;exact Za1 (fun q hq=>Za1 (fun q hq=>Zl1 h _ _ _ _ _ _ _ hq) (fun _ h=>h) hq) (fun _ h=>h) hr
 | seq a b iha ihb=>
  intro st r hr;simp only[ZG] at hr ⊢;cases ha:ZG C M N a st with
  | none=>simp[ha,andThen] at hr
  | some q=>
   rw[ha] at hr;rw[iha _ _ ha];obtain⟨e,aa⟩:=q;cases e with
   | normal=>exact ihb _ _ hr
   | exit id=>exact hr
   | ret=>exact hr
 | cond c a b iha ihb=>
  intro st r hr;simp only[ZG,ZjY] at hr ⊢;split at hr
  ·rename_i t ht;cases t
   ·simp only[Ka,Kn] at hr ⊢;exact ihb _ _ hr
   ·simp only[Km] at hr ⊢;exact iha _ _ hr
  ·cases hr
 | block id c ih=>
  intro st r hr;simp only[ZG] at hr ⊢;cases hc:ZG C M N c st with
  | none=>simp[hc,ZhO] at hr
  | some q=>rw[hc] at hr;rw[ih _ _ hc];exact hr
 | loop c ih=>
  intro st r hr;simp only[ZG] at hr ⊢;exact Zl2 ih _ _ _ _ _ hN hr
 | exit id=>intro st r hr;simpa [ZG] using hr
 | ret=>intro st r hr;simpa [ZG] using hr
 | keep K c ih=>
  intro st r hr;simp only[ZG] at hr ⊢;cases hc:ZG C M N c st with
  | none=>simp[hc,Zrm] at hr
  | some q=>rw[hc] at hr;rw[ih _ _ hc];exact hr
 | stuck=>intro st r hr;simp[ZG] at hr
 | link fl id i j c ih=>
  intro st r hr;simp only[ZG] at hr ⊢;obtain⟨aa,h1,h2⟩:=Za hr;rw[h1,Zh];cases hc:ZG C M N c aa with
  | none=>simp[hc,Zro] at h2
  | some q=>rw[hc] at h2;rw[ih _ _ hc];exact h2
 | melt c ih=>
  intro st r hr;simp only[ZG] at hr ⊢;exact ih _ r hr
 | peek id c ih=>
  intro st r hr;simp only[ZG] at hr ⊢;obtain⟨ds,h0,hr⟩:=Za hr;obtain⟨aa,h1,h2⟩:=Za hr;rw[h0,Zh,h1,Zh];cases hc:ZG C M N c aa with
  | none=>simp[hc,Zrq] at h2
  | some q=>rw[hc] at h2;rw[ih _ _ hc];exact h2
theorem ZDg (h:C.le C') {N N' : Nat} (hN:N≤N') {f:Zp} {as1:List AV} {hh:List Zm} {r:AV×List Zm}
  (hr:Zrs C M N f as1 hh=some r):Zrs C' M N' f as1 hh=some r:=by
 unfold Zrs at hr ⊢;by_cases hl:as1.length≤f.nt
 ·rw[Kg hl] at hr ⊢;cases hv:ZG C M N f.body { sl:=Wa 0 as1,hp:=Wf 0 hh,nx:=hh.length,m:=hh.length } with
  | none=>simp[hv,ZdX] at hr
  | some q=>rw[hv] at hr;rw[Zqb h hN _ _ _ hv];exact hr
 ·rw[Kd hl] at hr;cases hr
end
section
variable (X:Fns) (M:Zr)
theorem ZnD:∀ n,(Qp X M n).le (Qp X M (n+1)):=by
 intro n
 induction n with
 | zero=>intro f as1 h r hr;simp[Qp] at hr
 | succ n ih=>
  intro f as1 h r hr;rw[Qp] at hr ⊢;cases hf:X f with
  | none=>rw[hf] at hr;cases hr
  | some g=>
   rw[hf] at hr;cases g with
   | text g=>exact ZDg ih (Nat.le_succ n) hr
   | prim p=>exact hr
noncomputable def Zd (f:Nat) (as1:List AV) (h:List Zm):Option (AV×List Zm):=lim fun n=>Qp X M n f as1 h
noncomputable def QE (c:ZN) (st:St):Option (Ex×St):=lim fun n=>ZG (Qp X M n) M n c st
theorem Zdt (f:Nat) (as1:List AV) (h:List Zm):ZBT fun n=>Qp X M n f as1 h:=fun n r hr=>ZnD X M n f as1 h r hr
theorem ZfS (n:Nat):(Qp X M n).le (Zd X M):=fun f as1 h _ hr=>ZkP (Zdt X M f as1 h) hr
theorem ZkQ (c:ZN) (st:St):ZBT fun n=>ZG (Qp X M n) M n c st:=fun n r hr=>Zqb (ZnD X M n) (Nat.le_succ n) c st r hr
theorem Zcl {n m:Nat} (h:n≤m):(Qp X M n).le (Qp X M m):=fun f as1 hh _ hr=>(Zdt X M f as1 hh).le hr h
theorem Zxq {m:Nat→Bool} {hp:Hp} {base f:Nat} {aa:List AV} {r:Zf}
  (hr:Zdr (Zd X M) m hp base f aa=some r):∃ n,Zdr (Qp X M n) m hp base f aa=some r:=by
 unfold Zdr at hr ⊢;obtain⟨as1,ab,hr⟩:=Za hr;simp only[ab,Zh];unfold ZfG at hr ⊢;by_cases hc:(as1.flatMap Zy).all (Xi hp (X6 hp) (as1.flatMap Zy) []).contains∧¬(YV aa as1).any (Xi hp (X6 hp) (as1.flatMap Zy) []).contains∧Zbu hp (as1.flatMap J1) (Xi hp (X6 hp) (as1.flatMap Zy) [])=true
 ·rw[Kg hc] at hr;obtain⟨q,hq,hr⟩:=Za hr;obtain⟨n,hn⟩:=ZhP hq;refine⟨n,?_⟩;rw[Kg hc,hn];exact hr
 ·rw[Kd hc] at hr;cases hr
theorem ZnE {M' : Zr} {sl:Sl} {hp:Hp} {base:Nat} {o:COp} {r:Zf} (hr:vop (Zd X M) M' sl hp base o=some r) :
  ∃ n,vop (Qp X M n) M' sl hp base o=some r:=by
 cases o with
 | call f as1=>
  simp only[vop] at hr ⊢;cases hg:evO sl f<;>simp only[hg,ZdU] at hr ⊢ <;> first | exact Zxq X M hr | exact⟨0,hr⟩
 | _=>exact⟨0,hr⟩
theorem Zzd (nx:Nat):∀ (l:List CO) (i:Nat) (sl:Sl) (hp:Hp) (r:Sl×Hp),
  ZfO (Zd X M) M nx i l sl hp=some r→∃ n,ZfO (Qp X M n) M nx i l sl hp=some r:=by
 intro l
 induction l with
 | nil=>intro i sl hp r hr;exact⟨0,hr⟩
 | cons o rest ih=>
  intro i sl hp r hr;simp only[ZfO] at hr ⊢;obtain⟨b,hb,hr⟩:=Za hr;simp only[hb,Zh];cases b
  ·simp only[Ka,Kn] at hr ⊢;exact ih _ _ _ _ hr
  ·simp only[Km] at hr ⊢;obtain⟨q,hq,hr⟩:=Za hr;unfold YM at hq;obtain⟨e,he,hq⟩:=Za hq;obtain⟨n1,h1⟩:=ZnE X M he;obtain⟨n2,h2⟩:=ih _ _ _ _ hr;refine⟨max n1 n2,?_⟩;unfold YM;rw[Zv0 (Zcl X M (KaA n1 n2)) h1,Zh,hq,Zh];exact Zv1 (Zcl X M (Kay n1 n2)) _ _ _ _ _ _ h2
theorem Zze {M' : Zr} {nx i:Nat} {t:Bool} {o:COp} {sl:Sl} {hp:Hp} {e:Zf} (he:We (Zd X M) M' nx i t o sl hp=some e) :
  ∃ n,We (Qp X M n) M' nx i t o sl hp=some e:=by
 unfold We at he ⊢;cases t
 ·simp only[Ka,Kn,Zci] at he ⊢;obtain⟨e',aa,h2⟩:=Za he;obtain⟨n,hn⟩:=ZnE X M aa;exact⟨n,by rw[hn];exact h2⟩
 ·simp only[Km] at he ⊢;exact ZnE X M he
theorem Zxr {M' : Zr} (nx:Nat):∀ (l:List CO) (i:Nat) (t:Bool) (sl:Sl) (hp:Hp) (r:Sl×Hp),
  UV (Zd X M) M' nx i t l sl hp=some r→∃ n,UV (Qp X M n) M' nx i t l sl hp=some r:=by
 intro l
 induction l with
 | nil=>intro i t sl hp r hr;exact⟨0,hr⟩
 | cons o rest ih=>
  intro i t sl hp r hr;simp only[UV] at hr ⊢;obtain⟨b,hb,hr⟩:=Za hr;simp only[hb,Zh];cases b
  ·simp only[Ka,Kn] at hr ⊢;exact ih _ _ _ _ _ hr
  ·simp only[Km] at hr ⊢;obtain⟨q,hq,hr⟩:=Za hr;unfold YM at hq;obtain⟨e,he,hq⟩:=Za hq;obtain⟨n1,h1⟩:=Zze X M he;obtain⟨n2,h2⟩:=ih _ _ _ _ _ hr;refine⟨max n1 n2,?_⟩;unfold YM;rw[ZAJ (Zcl X M (KaA n1 n2)) h1,Zh,hq,Zh];exact Zl1 (Zcl X M (Kay n1 n2)) _ _ _ _ _ _ _ h2
theorem Xa {c:ZN} {st:St} {n:Nat} {r:Ex×St} (h:ZG (Qp X M n) M n c st=some r):QE X M c st=some r:=
 ZkP (ZkQ X M c st) h
theorem Ya {α:Type} {x:Nat→Option α} (h:∀ n,x n=none):lim x=none:=by
 cases hx:lim x with
 | none=>rfl
 | some r=>obtain⟨n,hn⟩:=ZhP hx;rw[h n] at hn;cases hn
theorem Zzf (st:St):QE X M .skip st=some (.normal,st):=Xa X M (n:=0) (by simp[ZG])
theorem Zzg (id:Nat) (st:St):QE X M (.exit id) st=some (.exit id,st):=Xa X M (n:=0) (by simp[ZG])
theorem ZBU (st:St):QE X M .ret st=some (.ret,st):=Xa X M (n:=0) (by simp[ZG])
theorem Zl3 (n:Nat) (ops:List CO) (st:St) :
  QE X M (.region n none ops) st=ZjH st.m (st.nx+64*n) (ZfO (Zd X M) M st.nx 0 ops st.sl st.hp):=by
 cases h:ZfO (Zd X M) M st.nx 0 ops st.sl st.hp with
 | some r=>
  obtain⟨k,hk⟩:=Zzd X M _ _ _ _ _ _ h;exact Xa X M (n:=k) (by simp only[ZG,hk,ZjH,Zh])
 | none=>
  refine Ya fun k=>?_;simp only[ZG];cases hn:ZfO (Qp X M k) M st.nx 0 ops st.sl st.hp with
  | none=>rfl
  | some r=>rw[Zv1 (ZfS X M k) _ _ _ _ _ _ hn] at h;cases h
theorem Zrt (n:Nat) (ps:List (Nat×Nat)) (ops:List CO) (st:St) :
  QE X M (.region n (some ps) ops) st=ZjH st.m (st.nx+64*n) (ZlZ ops ps (UV (Zd X M) (Yq M) st.nx 0 false ops st.sl st.hp)):=by
 cases h:UV (Zd X M) (Yq M) st.nx 0 false ops st.sl st.hp with
 | some r=>
  obtain⟨k,hk⟩:=Zxr X M _ _ _ _ _ _ _ h;cases hs:ZlZ ops ps (some r) with
  | none=>
   refine Ya fun k'=>?_;simp only[ZG];cases hn:UV (Qp X M k') (Yq M) st.nx 0 false ops st.sl st.hp with
   | none=>rfl
   | some r' =>
    have:=Zl1 (ZfS X M k') _ _ _ _ _ _ _ hn;rw[h] at this;cases this;rw[hs];rfl
  | some r'=>exact Xa X M (n:=k) (by simp only[ZG,hk,hs];rfl)
 | none=>
  refine Ya fun k=>?_;simp only[ZG];cases hn:UV (Qp X M k) (Yq M) st.nx 0 false ops st.sl st.hp with
  | none=>rfl
  | some r=>rw[Zl1 (ZfS X M k) _ _ _ _ _ _ _ hn] at h;cases h
theorem Uv {c:ZN} {st:St} {r:Ex×St} (h:QE X M c st=some r):∃ n,∀ m,n≤m→ZG (Qp X M m) M m c st=some r:=by
 obtain⟨n,hn⟩:=ZhP h;exact⟨n,fun m hm=>(ZkQ X M c st).le hn hm⟩
theorem ZBV (a b:ZN) (st:St):QE X M (.seq a b) st=andThen (QE X M a st) (QE X M b):=by
 cases ha:QE X M a st with
 | none=>
  refine Ya fun n=>?_;cases h:ZG (Qp X M n) M n a st with
  | none=>simp[ZG,h,andThen]
  | some q=>rw[Xa X M h] at ha;cases ha
 | some q=>
  obtain⟨e,aa⟩:=q;obtain⟨n,hn⟩:=Uv X M ha;cases e with
  | normal=>
   simp only[andThen];cases hb:QE X M b aa with
   | none=>
    refine Ya fun k=>?_;cases h:ZG (Qp X M k) M k (.seq a b) st with
    | none=>rfl
    | some q=>
     have h1:=(ZkQ X M (.seq a b) st).le h (KaA k n);simp only[ZG,hn _ (Kay k n),andThen] at h1;rw[Xa X M h1] at hb;cases hb
   | some q=>
    obtain⟨m,hm⟩:=Uv X M hb;refine Xa X M (n:=max n m) ?_;simp only[ZG,hn _ (KaA n m),andThen,hm _ (Kay n m)]
  | exit id=>exact Xa X M (n:=n) (by simp only[ZG,hn _ (Kr n),andThen])
  | ret=>exact Xa X M (n:=n) (by simp only[ZG,hn _ (Kr n),andThen])
theorem Zzh (c:Opd) (a b:ZN) (st:St) :
  QE X M (.cond c a b) st=ZjY (evO st.sl c) (QE X M a st) (QE X M b st):=by
 unfold ZjY;split
 ·rename_i t h;cases t
  ·simp only[Ka,Kn,QE,ZG,h,ZjY]
  ·simp only[Km,QE,ZG,h,ZjY]
 ·rename_i h;refine Ya fun n=>?_;simp only[ZG,ZjY]
theorem Zxs (id:Nat) (c:ZN) (st:St):QE X M (.block id c) st=ZhO id (QE X M c st):=by
 cases hc:QE X M c st with
 | none=>
  refine Ya fun n=>?_;cases h:ZG (Qp X M n) M n c st with
  | none=>simp[ZG,h,ZhO]
  | some q=>rw[Xa X M h] at hc;cases hc
 | some q=>
  obtain⟨n,hn⟩:=Uv X M hc;cases hb:ZhO id (some q) with
  | none=>
   obtain⟨e,aa⟩:=q;cases e<;>simp[ZhO] at hb
   split at hb<;>cases hb
  | some r=>exact Xa X M (n:=n) (by simp only[ZG,hn _ (Kr n),hb])
theorem Zzi (K:List Nat) (c:ZN) (st:St):QE X M (.keep K c) st=Zrm K (QE X M c st):=by
 cases hc:QE X M c st with
 | none=>
  refine Ya fun n=>?_;cases h:ZG (Qp X M n) M n c st with
  | none=>simp[ZG,h,Zrm]
  | some q=>rw[Xa X M h] at hc;cases hc
 | some q=>
  obtain⟨n,hn⟩:=Uv X M hc;exact Xa X M (n:=n) (by simp only[ZG,hn _ (Kr n),Zrm])
theorem Zzj (fl:Bool) (id:Nat) (i:Opd) (j:Nat) (c:ZN) (st:St):QE X M (.link fl id i j c) st=bnd (ZfQ fl id i j st) fun st1=>Zro id st.nx (QE X M c st1):=by
 cases hl:ZfQ fl id i j st with
 | none=>
  refine Ya fun n=>?_;simp only[ZG,hl];rfl
 | some st' =>
  rw[Zh];cases hc:QE X M c st' with
  | none=>
   refine Ya fun n=>?_;cases h:ZG (Qp X M n) M n c st' with
   | none=>simp only[ZG,hl,Zh,h];rfl
   | some q=>rw[Xa X M h] at hc;cases hc
  | some q=>
   obtain⟨n,hn⟩:=Uv X M hc;exact Xa X M (n:=n) (by simp only[ZG,hl,Zh,hn _ (Kr n)];rfl)
theorem Zzk (c:ZN) (st:St):QE X M (.melt c) st=QE X M c (ZvZ st):=by
 cases hc:QE X M c (ZvZ st) with
 | none=>
  refine Ya fun n=>?_;cases h:ZG (Qp X M n) M n c (ZvZ st) with
  | none=>simp only[ZG,h]
  | some q=>rw[Xa X M h] at hc;cases hc
 | some q=>
  obtain⟨n,hn⟩:=Uv X M hc;exact Xa X M (n:=n) (by simp only[ZG,hn _ (Kr n)])
theorem Zzl (id:Nat) (c:ZN) (st:St):QE X M (.peek id c) st=bnd (Zxp c) fun ds=>bnd (ZnB id st) fun st1=>Zrq st ds (QE X M c st1):=by
 cases h0:Zxp c with
 | none=>exact Ya fun n=>by simp only[ZG,h0];rfl
 | some ds=>
  cases hl:ZnB id st with
  | none=>exact Ya fun n=>by simp only[ZG,h0,hl];rfl
  | some st' =>
   rw[Zh,Zh];cases hc:QE X M c st' with
   | none=>
    refine Ya fun n=>?_;cases h:ZG (Qp X M n) M n c st' with
    | none=>simp only[ZG,h0,hl,Zh,h];rfl
    | some q=>rw[Xa X M h] at hc;cases hc
   | some q=>
    obtain⟨n,hn⟩:=Uv X M hc;exact Xa X M (n:=n) (by simp only[ZG,h0,hl,Zh,hn _ (Kr n)];rfl)
noncomputable def ZhQ (c:ZN) (K:List Nat) (st:St):Option (Ex×St):=lim fun n=>J2 (ZG (Qp X M n) M n c) K n st
theorem Zdu (c:ZN) (K:List Nat) (st:St):ZBT fun n=>J2 (ZG (Qp X M n) M n c) K n st:=fun n r hr=>
 Zl2 (fun _ _ h=>Zqb (ZnD X M n) (Nat.le_succ n) c _ _ h) K n (n+1) st r (Nat.le_succ n) hr
theorem Zzm (c:ZN) (st:St):QE X M (.loop c) st=ZhQ X M c (Za0 st.sl) st:=by
 simp only[QE,ZhQ,ZG]
theorem Zxt {c:ZN} {K:List Nat} {st aa : St} (h:QE X M c (UW K st)=some (.normal,aa)) :
  ZhQ X M c K st=ZhQ X M c K aa:=by
 obtain⟨n,hn⟩:=Uv X M h;cases hl:ZhQ X M c K aa with
 | none=>
  refine Ya fun k=>?_;cases hk:J2 (ZG (Qp X M k) M k c) K k st with
  | none=>rfl
  | some q=>
   have h1:=(Zdu X M c K st).le hk (show k≤max k n+1 by omega);simp only[J2] at h1;rw[hn (max k n+1) o_] at h1;simp only[] at h1;have h2:=Zl2 (fun _ _ h=>h) K (max k n) (max k n+1) aa q (Nat.le_succ _) h1;rw[show ZhQ X M c K aa=some q from ZkP (Zdu X M c K aa) h2] at hl;cases hl
 | some q=>
  obtain⟨m,hm⟩:=ZhP hl;refine ZkP (Zdu X M c K st) (n:=max n m+1) ?_;simp only[J2,hn (max n m+1) o_];exact Zl2 (fun _ _ h=>Zqb (Zcl X M (show m≤max n m+1 by omega)) (show m≤max n m+1 by omega) c _ _ h) K m (max n m) aa q o_ hm
theorem Zru {c:ZN} {K:List Nat} {st aa : St} {e:Ex} (he:e≠.normal) (h:QE X M c (UW K st)=some (e,aa)) :
  ZhQ X M c K st=some (e,aa):=by
 obtain⟨n,hn⟩:=Uv X M h;refine ZkP (Zdu X M c K st) (n:=n+1) ?_;simp only[J2,hn (n+1) o_];cases e with
 | normal=>exact absurd rfl he
 | exit id=>rfl
 | ret=>rfl
theorem ZDh {f:Nat} {as1:List AV} {h:List Zm} {fn:Zp} {r:AV×List Zm} (hx:X f=some (.text fn))
  (hl:as1.length≤fn.nt) (hr:ZdX h.length fn.res (QE X M fn.body { sl:=Wa 0 as1,hp:=Wf 0 h,nx:=h.length,m:=h.length })=some r) :
  Zd X M f as1 h=some r:=by
 cases hv:QE X M fn.body { sl:=Wa 0 as1,hp:=Wf 0 h,nx:=h.length,m:=h.length } with
 | none=>rw[hv] at hr;simp[ZdX] at hr
 | some q=>
  rw[hv] at hr;obtain⟨n,hn⟩:=Uv X M hv;refine ZkP (Zdt X M f as1 h) (n:=n+1) ?_;simp only[Qp,hx,ZnC,Zrs,hl,Km,hn n (Kr n)];exact hr
theorem Vv {f:Nat} {as1:List AV} {h:List Zm} {p:List AV→List Zm→Option (AV×List Zm)} {r:AV×List Zm} (hx:X f=some (.prim p)) (hp:p as1 h=some r) :
  Zd X M f as1 h=some r:=
 ZkP (Zdt X M f as1 h) (n:=1) (by simp only[Qp,hx,ZnC,hp])
end
section
variable (P:Program)
def Wr (nt:Nat):Code→Option ZN
 | .skip=>some .skip
 | .region _ ops draw=>bnd (QJ (ZoT P nt ops.toList) ops.toList) fun os=>if draw then (if Zrl ops os then some (.region ops.toList.length (some (Zad ops os)) os) else some .stuck) else some (.region ops.toList.length none os)
 | .seq a b=>bnd (Wr nt a) fun a=>bnd (Wr nt b) fun b=>some (.seq a b)
 | .cond c a b=>bnd (ZZ c) fun c=>bnd (Wr nt a) fun a=>bnd (Wr nt b) fun b=>some (.cond c a b)
 | .block id c=>bnd (Wr nt c) fun c=>some (.block id c)
 | .loop c=>bnd (Wr nt c) fun c=>some (.loop c)
 | .exit id=>some (.exit id)
 | .ret=>some .ret
 | _=>some .stuck
def ZfT:COp→COp
 | .buildT s _ xs=>.buildSl s xs
 | .asgT s _ x=>.assign (some s) x
 | .appT s b flat x y=>.append s b false flat x y
 | .makeT s b _ z l c=>.make s b z l c
 | c=>c
def ZnF:List CO→List CO
 | []=>[]
 | o :: r => { o with op:=ZfT o.op } :: ZnF r
def Zrv:Option (List (Nat×Nat))→List CO→List CO
 | none,ops=>ZnF ops
 | some _,ops=>ops
def Yr:ZN→ZN
 | .keep _ c=>Yr c
 | .seq a b=>.seq (Yr a) (Yr b)
 | .cond c a b=>.cond c (Yr a) (Yr b)
 | .block id c=>.block id (Yr c)
 | .loop c=>.loop (Yr c)
 | .region n d ops=>.region n d (Zrv d ops)
 | .link _ _ _ _ c=>Yr c
 | .melt c=>Yr c
 | .peek _ c=>Yr c
 | .skip=>.skip
 | .exit id=>.exit id
 | .ret=>.ret
 | .stuck=>.stuck
def ZkR (cf:Zp):Zp := { nt:=cf.nt,res:=cf.res,body:=Yr cf.body }
def cRes:ResultVar→Option Zrh
 | .tmp t=>some (.tmp t)
 | .cell a t=>bnd (ZeX P t) fun g=>some (.cell a g (P.cellsOf t))
def Zzn (fn:Func):Option Zp:=bnd fn.body fun c=>bnd (Wr P fn.ntmps c) fun b=>bnd (QJ (cRes P) fn.results.toList) fun rs=>some { nt:=fn.ntmps,res:=rs,body:=b }
end
end Go.Abs
