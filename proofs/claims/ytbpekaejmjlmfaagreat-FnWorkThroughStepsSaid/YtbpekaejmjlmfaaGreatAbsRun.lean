/- Own text. -/
import Derived.Test.YtbpekaejmjlmfaaGreatAbsOps
set_option linter.unusedVariables false
set_option linter.unusedSimpArgs false
namespace Go.Abs
open Go
inductive Ex where
 | normal
 | exit (id:Nat)
 | ret
def Q5 (lo hi:Nat):Hp→Bool
 | []=>true
 | (k,_) :: r=>decide (lo≤k)&&decide (k<hi)&&Q5 (k+1) hi r
def Xl (gone:List Nat) (sl:Sl):Sl:=match gone with
 | []=>sl
 | _=>ZlX (kill gone) sl
def WN (gone:List Nat) (hp:Hp):Hp:=match gone with
 | []=>hp
 | _=>ZlX (Xt gone) hp
def Zt (sl:Sl) (dst:Option Nat) (v:AV):Sl:=match dst with
 | some t=>ins sl t v
 | none=>sl
def Zf.on (e:Zf) (dst:Option Nat) (sl:Sl) (hp:Hp):Sl×Hp:=
 (Zt (Xl e.gone sl) dst e.eff.val,e.eff.on (WN e.gone hp))
def YZ (base:Nat) (dst:Option Nat) (sl:Sl) (hp:Hp) (e:Option Zf):Option (Sl×Hp):=
 bnd e fun e=>if Q5 base (base+64) e.eff.adds then some (e.on dst sl hp) else none
def Zgx (want:Bool):AV→Option Bool
 | .d (.bool b)=>some (b==want)
 | .tup []=>some false
 | _=>none
def Z6 (sl:Sl):Option (Nat×Bool)→Option Bool
 | none=>some true
 | some q=>Zgx q.2 (gs sl q.1)
inductive Z0 where
 | skip
 | region (n:Nat) (draw:Option (List (Nat×Nat))) (ops:List CO)
 | seq (a b:Z0)
 | cond (c:Opd) (a b:Z0)
 | block (id:Nat) (c:Z0)
 | loop (c:Z0)
 | exit (id:Nat)
 | ret
 | keep (K:List Nat) (c:Z0)
 | stuck
 | link (fl:Bool) (id:Nat) (i:Opd) (j:Nat) (c:Z0)
 | melt (c:Z0)
inductive ZsE where
 | tmp (t:Nat)
 | cell (a:Nat) (g:Bool) (s:Nat)
structure Zq where
 nt:Nat
 res:List ZsE
 body:Z0
def Zq2 (x:Option Opd):List Opd:=match x with
 | some y=>[y]
 | none=>[]
def ZH:COp→List Opd
 | .move x=>[x]
 | .assign _ x=>[x]
 | .pick c a b=>[c,a,b]
 | .alloc _ _=>[]
 | .box x=>[x]
 | .build _ ps=>ps.map fun q=>q.2.2
 | .buildSl _ xs=>xs
 | .load _ _ a=>[a]
 | .store _ _ a x=>[a,x]
 | .nilCheck x=>[x]
 | .bin _ _ x y=>[x,y]
 | .un _ x=>[x]
 | .eqA _ _ x y=>[x,y]
 | .convI _ x=>[x]
 | .convS x=>[x]
 | .fn _ cs=>cs
 | .make _ _ _ l c=>[l,c]
 | .slice _ x lo hi=>x :: (Zq2 lo++Zq2 hi)
 | .sliceS x lo hi=>x :: (Zq2 lo++Zq2 hi)
 | .slice0 x hi mx=>[x,hi,mx]
 | .shift _ x=>[x]
 | .part _ _ _ x=>[x]
 | .iaS _ x i=>[x,i]
 | .iaA _ _ x i=>[x,i]
 | .ixS x i=>[x,i]
 | .ixA _ _ _ x i=>[x,i]
 | .nth _ x=>[x]
 | .len x=>[x]
 | .lenS x=>[x]
 | .append _ _ _ _ x y=>[x,y]
 | .min x y=>[x,y]
 | .max x y=>[x,y]
 | .call f as=>f :: as
 | .slice3 _ x lo hi mx=>[x,lo,hi,mx]
 | .clear _ _ x=>[x]
 | .stuck=>[]
 | .buildT _ _ xs=>xs
 | .appT _ _ _ x y=>[x,y]
 | .asgT _ _ x=>[x]
 | .makeT _ _ _ _ l c=>[l,c]
def ZiI:COp→Bool
 | .store _ _ _ _=>true
 | _=>false
def isApp:COp→Bool
 | .append _ _ _ _ _ _=>true
 | _=>false
def Zq3 (c:COp):Bool:=ZiI c || isApp c
def CO.starts (o:CO):Bool:=ZiI o.op || o.tl
def Z1 (os:List CO) (i:Nat):Bool:=match os[i]? with
 | some o=>CO.starts o
 | none=>false
def Zcg:Opd→List Nat
 | .t n=>[n]
 | _=>[]
def Zq4:Option (Nat×Bool)→List Nat
 | some q=>[q.1]
 | none=>[]
def VE (o:CO):List Nat:=(ZH o.op).flatMap Zcg++Zq4 o.guard
def QS:Option Nat→List Nat→Bool
 | some d,l=>!l.contains d
 | none,_=>true
def Zbv:Option Nat→Option Nat→Bool
 | some d,some e=>d != e
 | _,_=>true
def XQ (a b:CO):Bool:=QS a.dst (VE b)&&Zbv a.dst b.dst&&QS b.dst (VE a)
def Vk:Opd→Bool
 | .v a=>(Zy a).isEmpty&&!Zs6 a
 | _=>true
def Zva (os:List CO) (j i:Nat):Bool:=match os[j]?,os[i]? with
 | some a,some b=>XQ a b
 | _,_=>false
def Ul:COp→Bool
 | .load _ _ _=>false
 | .store _ _ _ _=>false
 | .slice _ _ _ _=>false
 | .slice0 _ _ _=>false
 | .iaS _ _ _=>false
 | .len _=>false
 | .append _ _ _ _ _ _=>false
 | .buildSl _ _=>false
 | .buildT _ _ _=>false
 | .appT _ _ _ _ _=>false
 | .asgT _ _ _=>false
 | .makeT _ _ _ _ _ _=>false
 | .call _ _=>false
 | .slice3 _ _ _ _ _=>false
 | .clear _ _ _=>false
 | _=>true
def Za2:COp→Bool
 | .load _ _ _=>true
 | .slice _ _ _ _=>true
 | .slice0 _ _ _=>true
 | .iaS _ _ _=>true
 | .len _=>true
 | _=>false
def Zys:COp→Bool
 | .clear _ _ _=>false
 | .store _ _ _ _=>false
 | .append _ _ _ _ _ _=>false
 | .buildSl _ _=>false
 | .buildT _ _ _=>false
 | .appT _ _ _ _ _=>false
 | .asgT _ _ _=>false
 | .makeT _ _ _ _ _ _=>false
 | .call _ _=>false
 | _=>true
def J1 (os:List CO) (k:Nat):Option Nat:=match os[k]? with
 | some o=>o.dst
 | none=>none
def Zvb (os:List CO) (k:Nat):List Nat:=match os[k]? with
 | some o=>VE o
 | none=>[]
def Zch (os:List CO) (k:Nat):Bool:=(List.range os.length).all fun q=>decide (q<k) || QS (J1 os q) (Zvb os k)
def VF:COp→Bool
 | .move _=>true
 | _=>false
def Zgy:COp→Bool
 | .append _ _ _ _ _ _=>true
 | .buildSl _ _=>true
 | _=>false
def ZbL:COp→Bool
 | .call (.f _) _=>true
 | _=>false
def Zmm:COp→List Opd
 | .call _ as=>as
 | _=>[]
def Zyt:COp→Bool
 | .alloc _ _=>false
 | .box _=>false
 | .assign _ _=>false
 | .make _ _ _ _ _=>false
 | .fn _ _=>false
 | _=>true
def ZtC:COp→Bool
 | .buildSl _ _=>true
 | _=>false
def Ze1:AV→Bool
 | .d _=>true
 | .nil=>true
 | .nilp=>true
 | .nili=>true
 | _=>false
def Wf:List AV→Bool
 | []=>true
 | c :: r=>Ze1 c&&Wf r
def Zow:COp→Bool
 | .alloc _ cs=>Wf cs
 | _=>false
def Zq5 (c:COp):Bool:=Za2 c || ZtC c || (Ul c&&Zyt c) || Zow c
def Zk6:COp→Bool
 | .alloc _ cs=>Wf cs
 | .buildSl _ _=>true
 | .load _ _ _=>true
 | .nilCheck _=>true
 | .bin _ _ _ _=>true
 | .un _ _=>true
 | .convI _ _=>true
 | .shift _ _=>true
 | .iaS _ _ _=>true
 | .slice _ _ _ _=>true
 | .len _=>true
 | .sliceS _ _ _=>true
 | .lenS _=>true
 | _=>false
def ZDe:Option Nat→Bool
 | some _=>true
 | none=>false
def Zok (os:List CO) (k:Nat):Bool:=ZDe (J1 os k)&&(List.range os.length).all fun q=>q==k || Zbv (J1 os q) (J1 os k)
def Zk7 (os:List CO) (j i:Nat):Bool:=Zch os j&&Zch os i
def ZBR (os:List CO) (j i:Nat) (a b:COp):Bool:=
 Zys b || (Zq3 b&&(Ul a || (!VF a&&Za2 a&&Zk7 os j i))) || (VF a&&(Zgy b || Zok os j)) || (!VF a&&ZbL b&&Zq5 a&&Zk7 os j i&&Zok os j)
def ZBS (os:List CO) (j i:Nat) (a b:COp):Bool:=(VF b&&Zok os i) || (!VF b&&ZbL a&&Zk6 b&&Zk7 os j i&&Zok os i)
def Zvc (os:List CO) (j i:Nat):Bool:=match os[j]?,os[i]? with
 | some a,some b=>if Z1 os j then !Z1 os i&&ZBS os j i a.op b.op else !Z1 os i || ZBR os j i a.op b.op
 | _,_=>false
def Zgz (os:List CO) (j i:Nat):Option (Nat×Nat):=match os[j]?,os[i]? with
 | some a,some b=>if Z1 os j then (if VF b.op || ZbL a.op then some (i,j) else none) else
   if Z1 os i&&(if Zq3 b.op then !(Ul a.op) else if VF a.op then !(Zgy b.op) else ZbL b.op) then some (j,i) else none
 | _,_=>none
def optP:Option (Nat×Nat)→List (Nat×Nat)
 | some p=>[p]
 | none=>[]
def ZdO (ops:Array Oper) (os:List CO):List (Nat×Nat):=
 (List.range ops.size).flatMap fun i=>(List.range i).flatMap fun j=>if ZjV ops 6 i j then [] else optP (Zgz os j i)
def Zq6 (ops:Array Oper) (os:List CO):Bool:=
 (List.range ops.size).all (fun i=>(WL ops i).all fun e=>decide (e<i)) &&
 (List.range ops.size).all (fun i=>(List.range i).all fun j=>(WL ops i).contains j || Zva os j i) &&
 (List.range ops.size).all (fun i=>(List.range i).all fun j=>ZjV ops 6 i j || Zvc os j i) &&
 os.all (fun o=>(ZH o.op).all Vk)
def ZdP (id:Nat):AV→Bool
 | .d _=>true
 | .pim _=>true
 | .nil=>true
 | .ptr k _=>k != id
 | .prow k _ _ _=>k != id
 | .own k=>k != id
 | .ownv k _ _=>k != id
 | .nilp=>true
 | .nili=>true
 | .tup []=>true
 | _=>false
def okC:AV→Bool
 | .d _=>true
 | .pim _=>true
 | .nil=>true
 | .ptr _ _=>true
 | .prow _ _ _ _=>true
 | .own _=>true
 | .ownv _ _ _=>true
 | .nilp=>true
 | .nili=>true
 | _=>false
def Zvd:List AV→Bool
 | []=>true
 | v :: r=>okC v&&Zvd r
def okV:AV→Bool
 | .agg cs=>Zvd cs
 | .tup []=>true
 | v=>okC v
def okL (sl:Sl):List Opd→Bool
 | []=>true
 | x :: r=>okV (evO sl x)&&okL sl r
def okD (sl:Sl):Option Nat→Bool
 | some t=>okV (gs sl t)
 | none=>true
def Wg:AV→Option Nat
 | .ptr k _=>some k
 | .prow k _ _ _=>some k
 | _=>none
def QZ (sl:Sl) (id:Nat):List Opd→Bool
 | []=>true
 | x :: r=>ZdP id (evO sl x)&&QZ sl id r
def ZgA (sl:Sl) (a:COp):Option Nat→Bool
 | some id=>QZ sl id (ZH a)
 | none=>false
def ZdQ (sl:Sl) (xs:List Opd):AV→Bool
 | .ptr k _=>QZ sl k xs
 | .prow _ _ _ _=>false
 | _=>true
def ZhW (sl:Sl) (xs:List Opd):List Opd→Bool
 | []=>true
 | y :: r=>ZdQ sl xs (evO sl y)&&ZhW sl xs r
def Za3 (sl:Sl) (a:COp):AV→Bool
 | .nil=>true
 | .tup []=>true
 | .own k=>QZ sl k (ZH a)
 | .ownv k _ _=>QZ sl k (ZH a)
 | _=>false
def seenSrc (sl:Sl) (a:COp):AV→Bool
 | .own k=>QZ sl k (ZH a)
 | v=>okV v
def Yj (sl:Sl) (xs:List Opd):List Nat→Bool
 | []=>true
 | k :: r=>QZ sl k xs&&Yj sl xs r
def WE (sl:Sl) (a:COp):AV→AV→Bool
 | .prow _ _ _ _,.d _=>true
 | .prow _ _ _ _,v=>okV v&&Yj sl (ZH a) (Zy v)
 | _,_=>true
def JP (sl:Sl) (d:Option Nat):COp→COp→Bool
 | .move _,_=>okD sl d
 | a,.store _ _ x y=>ZgA sl a (Wg (evO sl x))&&WE sl a (evO sl x) (evO sl y)
 | a,.append _ _ _ flat x y=>Za3 sl a (evO sl x)&&(flat || seenSrc sl a (evO sl y))
 | a,.call _ as=>okL sl (ZH a)&&(okD sl d&&(okL sl as&&ZhW sl (ZH a) as))
 | _,_=>false
def Zk8 (os:List CO) (sl:Sl) (p:Nat×Nat):Bool:=match os[p.1]?,os[p.2]? with
 | some a,some b=>JP sl a.dst a.op b.op
 | _,_=>false
def JG (os:List CO) (sl:Sl):List (Nat×Nat)→Bool
 | []=>true
 | p :: r=>Zk8 os sl p&&JG os sl r
def Vf (M:Zp):Zp:=fun f i=>i != 99&&M f i
section
variable (C:Orc) (M:Zp)
noncomputable def ZhX (nx:Nat):Nat→List CO→Sl→Hp→Option (Sl×Hp)
 | _,[],sl,hp=>some (sl,hp)
 | i,o :: rest,sl,hp=>bnd (Z6 sl o.guard) fun b=>
   if b then bnd (YZ (nx+64*i) o.dst sl hp (vop C M sl hp (nx+64*i) o.op)) fun r=>ZhX nx (i+1) rest r.1 r.2
   else ZhX nx (i+1) rest (Zt sl o.dst (.tup [])) hp
def ZgB (c:Zf):List Nat→Hp→List Nat→List Nat→Option Zf
 | [],[],[],[]=>some c
 | _,_,_,_=>none
def ZdR (e:Option Zf):Option Zf:=bnd e fun c=>ZgB c c.gone c.eff.sets c.eff.dels c.eff.frz
noncomputable def WQ (nx i:Nat) (tail:Bool) (o:COp) (sl:Sl) (hp:Hp):Option Zf:=
 if tail then vop C M sl hp (nx+64*i) o else ZdR (vop C M sl hp (nx+64*i) o)
noncomputable def Zbd (nx:Nat):Nat→Bool→List CO→Sl→Hp→Option (Sl×Hp)
 | _,_,[],sl,hp=>some (sl,hp)
 | i,t,o :: rest,sl,hp=>bnd (Z6 sl o.guard) fun b=>
   if b then bnd (YZ (nx+64*i) o.dst sl hp (WQ C M nx i (CO.starts o) o.op sl hp)) fun r=>Zbd nx (i+1) t rest r.1 r.2
   else Zbd nx (i+1) t rest (Zt sl o.dst (.tup [])) hp
def Zci {α:Type}:List (Nat×α)→List Nat
 | []=>[]
 | (k,_) :: r=>k :: Zci r
def only {α:Type} (K:List Nat):List (Nat×α)→List (Nat×α)
 | []=>[]
 | (k,v) :: r=>if K.contains k then (k,v) :: only K r else only K r
def Um:Nat→List Zn→Hp
 | _,[]=>[]
 | k,o :: r=>Um (k+1) r++[(k,o)]
def ZtD:Sl→List Nat
 | []=>[]
 | (_,v) :: r=>Zy v++ZtD r
def Zve:Option Zn→Bool
 | some _=>true
 | none=>false
def Ze2 (hp:Hp) (ids:List Nat) (i:Nat):Bool:=ids.contains i&&Zve (lkp hp i)
def ZhY (hp:Hp) (ids:List Nat):List Nat→List Nat
 | []=>[]
 | i :: r=>if Ze2 hp ids i then ZhY hp ids r else i :: ZhY hp ids r
def Zfu (hp:Hp) (ids:List Nat) (v:AV):AV:=ren (WK ids) (kill (ZhY hp ids (Zy v)) v)
def ZhZ (hp:Hp) (ids:List Nat) (o:Zn):Zn:=ZkB (WK ids) (Xt (ZhY hp ids (ZaL o)) o)
def Zyu:Option Zn→List Nat
 | some o=>ZaL o
 | none=>[]
def UQ (hp:Hp):List Nat→List Nat
 | []=>[]
 | id :: r=>Zyu (lkp hp id)++UQ hp r
def J2 (K:List Nat) (st:St):St:=
 let sl:=only K st.sl
 let ids:=Xb st.hp (X9 st.hp) (ZtD sl++UQ st.hp (List.range st.m)) (List.range st.m)
 { sl:=ZlX (Zfu st.hp ids) sl,hp:=Um 0 ((ZeV st.hp ids).map (ZhZ st.hp ids)),nx:=ids.length,m:=st.m }
def Zbe (f:St→Option (Ex×St)) (K:List Nat):Nat→St→Option (Ex×St)
 | 0,_=>none
 | n+1,st=>match f (J2 K st) with
  | some (.normal,st')=>Zbe f K n st'
  | r=>r
def andThen (r:Option (Ex×St)) (k:St→Option (Ex×St)):Option (Ex×St):=match r with
 | some (.normal,st)=>k st
 | r=>r
def Zjn (v:AV) (a b:Option (Ex×St)):Option (Ex×St):=match v with
 | .d (.bool t)=>if t then a else b
 | _=>none
def Zh0 (id:Nat) (r:Option (Ex×St)):Option (Ex×St):=match r with
 | some (.exit j,st)=>if j=id then some (.normal,st) else some (.exit j,st)
 | r=>r
def ZtE (ops:List CO) (ps:List (Nat×Nat)) (r:Option (Sl×Hp)):Option (Sl×Hp):=bnd r fun r=>if JG ops r.1 ps then some r else none
def Zol (m nx:Nat) (r:Option (Sl×Hp)):Option (Ex×St):=bnd r fun r=>some (.normal,{ sl:=r.1,hp:=r.2,nx:=nx,m:=m })
def Zq7 (K:List Nat) (r:Option (Ex×St)):Option (Ex×St):=match r with
 | some q=>some (q.1,{ q.2 with sl:=only K q.2.sl })
 | none=>none
def Zzp (fl:Bool) (k:Nat) (ys:List D):Option Zn:=if fl then (if Za7 D.flat ys then some (.row k ys true false) else none) else some (.tree k k ys none)
def Zk9 (xs:List D) (n j:Nat) (y:D):Option (List D):=bnd xs[n]? fun x=>some (xs.set n (WH x j [y]))
def Zzq (fl:Bool) (nx n j:Nat):Option Zn→Option (Zn×Zn)
 | some (.tree s k xs none)=>bnd (Za0 xs n j) fun ys=>bnd (Zzp fl k ys) fun o=>bnd (Zk9 xs n j (.sl [])) fun xs'=>some (.tree s k xs' (some (some nx,n,j)),o)
 | _=>none
def ZgC (fl:Bool) (id:Nat) (i:Opd) (j:Nat) (st:St):Option St:=bnd (idx (evO st.sl i)) fun n=>if 0≤n then bnd (Zzq fl st.nx n.toNat j (lkp st.hp id)) fun q=>some { st with hp:=ins (ins st.hp id q.1) st.nx q.2,nx:=st.nx+64 } else none
def Zq8 (k:Nat):Option Zn→Option (List D)
 | some (.row k' ys true false)=>if k'=k∧Za7 D.flat ys then some ys else none
 | some (.tree k' n ys none)=>if k'=k∧n=k then some ys else none
 | _=>none
def Zna (hp:Hp) (id nm:Nat):Option Zn→Option Hp
 | some (.tree s k xs (some (some nm',n,j)))=>if nm'=nm then bnd (Zq8 k (lkp hp nm)) fun ys=>bnd (Zk9 xs n j (.sl ys)) fun xs'=>some (ins (del hp nm) id (.tree s k xs' none)) else none
 | _=>none
def ZAI (hp:Hp):Option Hp→Hp
 | some h=>h
 | none=>hp
def Zq9 (id nm:Nat) (r:Option (Ex×St)):Option (Ex×St):=match r with
 | some q=>some (q.1,{ q.2 with hp:=ZAI q.2.hp (Zna q.2.hp id nm (lkp q.2.hp id)) })
 | none=>none
def Zvf (st:St):St := { st with hp:=ZlX Zk2 st.hp }
noncomputable def ZP (N:Nat):Z0→St→Option (Ex×St)
 | .skip,st=>some (.normal,st)
 | .region n none ops,st=>Zol st.m (st.nx+64*n) (ZhX C M st.nx 0 ops st.sl st.hp)
 | .region n (some ps) ops,st=>Zol st.m (st.nx+64*n) (ZtE ops ps (Zbd C (Vf M) st.nx 0 false ops st.sl st.hp))
 | .seq a b,st=>andThen (ZP N a st) (ZP N b)
 | .cond c a b,st=>Zjn (evO st.sl c) (ZP N a st) (ZP N b st)
 | .block id c,st=>Zh0 id (ZP N c st)
 | .loop c,st=>Zbe (ZP N c) (Zci st.sl) N st
 | .exit id,st=>some (.exit id,st)
 | .ret,st=>some (.ret,st)
 | .keep K c,st=>Zq7 K (ZP N c st)
 | .stuck,_=>none
 | .link fl id i j c,st=>bnd (ZgC fl id i j st) fun st1=>Zq9 id st.nx (ZP N c st1)
 | .melt c,st=>ZP N c (Zvf st)
def Zra (st:St):ZsE→Option AV
 | .tmp t=>some (gs st.sl t)
 | .cell a g s=>Jr st.hp g s (gs st.sl a)
def Un (m:Nat) (hp:Hp) (v:AV):AV×List Zn:=
 let ids:=Xb hp (X9 hp) (Zy v++UQ hp (List.range m)) (List.range m)
 (Zfu hp ids v,(ZeV hp ids).map (ZhZ hp ids))
def Zzr:AV→Bool
 | .tup _=>true
 | _=>false
def ZjY:List AV→Bool
 | []=>false
 | v :: r=>Zzr v || ZjY r
def ZdS:List AV→AV
 | [v]=>v
 | vs=>if ZjY vs then .junk else .tup vs
def WO:Nat→List AV→Sl
 | _,[]=>[]
 | k,v :: r=>WO (k+1) r++[(k,v)]
def Ze3 (m:Nat) (rs:List ZsE) (r:Option (Ex×St)):Option (AV×List Zn):=match r with
 | some (.normal,st)=>bnd (QH (Zra st) rs) fun vs=>some (Un m st.hp (ZdS vs))
 | some (.ret,st)=>bnd (QH (Zra st) rs) fun vs=>some (Un m st.hp (ZdS vs))
 | _=>none
noncomputable def Zrb (N:Nat) (fn:Zq) (as:List AV) (h:List Zn):Option (AV×List Zn):=
 if as.length≤fn.nt then Ze3 h.length fn.res (ZP C M N fn.body { sl:=WO 0 as,hp:=Um 0 h,nx:=h.length,m:=h.length }) else none
end
inductive Fn where
 | text (f:Zq)
 | prim (p:List AV→List Zn→Option (AV×List Zn))
abbrev Fns:=Nat→Option Fn
noncomputable def Zmn (C:Orc) (M:Zp) (N:Nat) (as:List AV) (h:List Zn):Option Fn→Option (AV×List Zn)
 | some (.text f)=>Zrb C M N f as h
 | some (.prim p)=>p as h
 | none=>none
noncomputable def Qt (X:Fns) (M:Zp):Nat→Orc
 | 0,_,_,_=>none
 | n+1,f,as,h=>Zmn (Qt X M n) M n as h (X f)
open Classical in
noncomputable def lim {α:Type} (x:Nat→Option α):Option α:=if h:∃ r,∃ n,x n=some r then some h.choose else none
def ZAJ {α:Type} (x:Nat→Option α):Prop:=∀ n r,x n=some r→x (n+1)=some r
theorem ZAJ.le {α:Type} {x:Nat→Option α} (h:ZAJ x) {n m:Nat} {r:α} (hr:x n=some r) (aa:n≤m):x m=some r:=by
 induction aa with
 | refl=>exact hr
 | step _ ih=>exact h _ _ ih
theorem ZjZ {α:Type} {x:Nat→Option α} (h:ZAJ x) {n:Nat} {r:α} (hr:x n=some r):lim x=some r:=by
 have he:∃ r,∃ n,x n=some r:=⟨r,n,hr⟩
 unfold lim;rw[dif_pos he];obtain⟨m,hm⟩:=he.choose_spec;have h1:=h.le hm (Kar m n);have h2:=h.le hr (Kap m n);rw[h1] at h2;exact h2
theorem Zh1 {α:Type} {x:Nat→Option α} {r:α} (hr:lim x=some r):∃ n,x n=some r:=by
 unfold lim at hr;split at hr
 ·rename_i h;obtain⟨n,hn⟩:=h.choose_spec;exact⟨n,by rw[hn];exact hr⟩
 ·cases hr
def Orc.le (C C' : Orc):Prop:=∀ f as h r,C f as h=some r→C' f as h=some r
section
variable {M:Zp} {C C' : Orc}
theorem Zcj {α β:Type} {x x' : Option α} {f f' : α→Option β} {r:β} (hx:∀ a,x=some a→x'=some a) (hf:∀ a,f a=some r→f' a=some r) (h:bnd x f=some r):bnd x' f'=some r:=by
 obtain⟨a,h1,h2⟩:=Za h;rw[hx a h1];exact hf a h2
theorem ZBT (h:C.le C') {m:Nat→Bool} {hp:Hp} {base f:Nat} {aa:List AV} {r:Zf}
  (hr:Zeh C m hp base f aa=some r):Zeh C' m hp base f aa=some r:=by
 unfold Zeh at hr ⊢;refine Zcj (fun _ h=>h) (fun as hr=>?_) hr;unfold Zgq at hr ⊢;by_cases hc:(as.flatMap Zy).all (Xb hp (X9 hp) (as.flatMap Zy) []).contains∧¬(Ve aa as).any (Xb hp (X9 hp) (as.flatMap Zy) []).contains∧ZcA hp (as.flatMap Zbc) (Xb hp (X9 hp) (as.flatMap Zy) [])=true
 ·rw[Kl hc] at hr ⊢;exact Zcj (fun q hq=>h _ _ _ _ hq) (fun _ h=>h) hr
 ·rw[Ki hc] at hr;cases hr
theorem Zvg (h:C.le C') {sl:Sl} {hp:Hp} {base:Nat} {o:COp} {r:Zf} (hr:vop C M sl hp base o=some r) :
  vop C' M sl hp base o=some r:=by
 cases o with
 | call f as=>
  simp only[vop] at hr ⊢;cases hg:evO sl f<;>simp only[hg,ZeY] at hr ⊢ <;> first | exact ZBT h hr | exact hr
 | _=>exact hr
theorem Zvh (h:C.le C') (nx:Nat):∀ (l:List CO) (i:Nat) (sl:Sl) (hp:Hp) (r:Sl×Hp),
  ZhX C M nx i l sl hp=some r→ZhX C' M nx i l sl hp=some r:=by
 intro l
 induction l with
 | nil=>intro i sl hp r hr;exact hr
 | cons o rest ih=>
  intro i sl hp r hr;simp only[ZhX] at hr ⊢;refine Zcj (fun _ h=>h) (fun b hr=>?_) hr;cases b
  ·simp only[Ka,Kj] at hr ⊢;exact ih _ _ _ _ hr
  ·simp only[Kk] at hr ⊢;refine Zcj (fun q hq=>?_) (fun q hq=>ih _ _ _ _ hq) hr;unfold YZ at hq ⊢;exact Zcj (fun e he=>Zvg h he) (fun _ h=>h) hq
theorem Zzs (h:C.le C') {nx i:Nat} {t:Bool} {o:COp} {sl:Sl} {hp:Hp} {e:Zf} (he:WQ C M nx i t o sl hp=some e) :
  WQ C' M nx i t o sl hp=some e:=by
 unfold WQ at he ⊢;cases t
 ·simp only[Ka,Kj,ZdR] at he ⊢;exact Zcj (fun _ hv=>Zvg h hv) (fun _ h=>h) he
 ·simp only[Kk] at he ⊢;exact Zvg h he
theorem Zla (h:C.le C') (nx:Nat):∀ (l:List CO) (i:Nat) (t:Bool) (sl:Sl) (hp:Hp) (r:Sl×Hp),
  Zbd C M nx i t l sl hp=some r→Zbd C' M nx i t l sl hp=some r:=by
 intro l
 induction l with
 | nil=>intro i t sl hp r hr;exact hr
 | cons o rest ih=>
  intro i t sl hp r hr;simp only[Zbd] at hr ⊢;refine Zcj (fun _ h=>h) (fun b hr=>?_) hr;cases b
  ·simp only[Ka,Kj] at hr ⊢;exact ih _ _ _ _ _ hr
  ·simp only[Kk] at hr ⊢;refine Zcj (fun q hq=>?_) (fun q hq=>ih _ _ _ _ _ hq) hr;unfold YZ at hq ⊢;exact Zcj (fun e he=>Zzs h he) (fun _ h=>h) hq
theorem Zlb {f g:St→Option (Ex×St)} (h:∀ st r,f st=some r→g st=some r) (K:List Nat) :
  ∀ (n m:Nat) (st:St) (r:Ex×St),n≤m→Zbe f K n st=some r→Zbe g K m st=some r:=by
 intro n
 induction n with
 | zero=>intro m st r _ hr;simp[Zbe] at hr
 | succ n ih=>
  intro m st r hm hr;cases m with
  | zero=>omega
  | succ m=>
   simp only[Zbe] at hr ⊢;cases hf:f (J2 K st) with
   | none=>simp[hf] at hr
   | some q=>
    rw[hf] at hr;rw[h _ _ hf];obtain⟨e,aa⟩:=q;cases e with
    | normal=>exact ih m aa r (by omega) hr
    | exit id=>exact hr
    | ret=>exact hr
theorem Zox (h:C.le C') {N N' : Nat} (hN:N≤N'):∀ (c:Z0) (st:St) (r:Ex×St),
  ZP C M N c st=some r→ZP C' M N' c st=some r:=by
 intro c
 induction c with
 | skip=>intro st r hr;simpa [ZP] using hr
 | region n draw ops=>
  intro st r hr;cases draw
  ·simp only[ZP,Zol] at hr ⊢;exact Zcj (fun q hq=>Zvh h _ _ _ _ _ _ hq) (fun _ h=>h) hr
  ·simp only[ZP,Zol,ZtE] at hr ⊢;exact Zcj (fun q hq=>Zcj (fun q hq=>Zla h _ _ _ _ _ _ _ hq) (fun _ h=>h) hq) (fun _ h=>h) hr
 | seq a b iha ihb=>
  intro st r hr;simp only[ZP] at hr ⊢;cases ha:ZP C M N a st with
  | none=>simp[ha,andThen] at hr
  | some q=>
   rw[ha] at hr;rw[iha _ _ ha];obtain⟨e,aa⟩:=q;cases e with
   | normal=>exact ihb _ _ hr
   | exit id=>exact hr
   | ret=>exact hr
 | cond c a b iha ihb=>
  intro st r hr;simp only[ZP,Zjn] at hr ⊢;split at hr
  ·rename_i t ht;cases t
   ·simp only[Ka,Kj] at hr ⊢;exact ihb _ _ hr
   ·simp only[Kk] at hr ⊢;exact iha _ _ hr
  ·cases hr
 | block id c ih=>
  intro st r hr;simp only[ZP] at hr ⊢;cases hc:ZP C M N c st with
  | none=>simp[hc,Zh0] at hr
  | some q=>rw[hc] at hr;rw[ih _ _ hc];exact hr
 | loop c ih=>
  intro st r hr;simp only[ZP] at hr ⊢;exact Zlb ih _ _ _ _ _ hN hr
 | exit id=>intro st r hr;simpa [ZP] using hr
 | ret=>intro st r hr;simpa [ZP] using hr
 | keep K c ih=>
  intro st r hr;simp only[ZP] at hr ⊢;cases hc:ZP C M N c st with
  | none=>simp[hc,Zq7] at hr
  | some q=>rw[hc] at hr;rw[ih _ _ hc];exact hr
 | stuck=>intro st r hr;simp[ZP] at hr
 | link fl id i j c ih=>
  intro st r hr;simp only[ZP] at hr ⊢;obtain⟨aa,h1,h2⟩:=Za hr;rw[h1,Zg];cases hc:ZP C M N c aa with
  | none=>simp[hc,Zq9] at h2
  | some q=>rw[hc] at h2;rw[ih _ _ hc];exact h2
 | melt c ih=>
  intro st r hr;simp only[ZP] at hr ⊢;exact ih _ r hr
theorem ZBU (h:C.le C') {N N' : Nat} (hN:N≤N') {f:Zq} {as:List AV} {hh:List Zn} {r:AV×List Zn}
  (hr:Zrb C M N f as hh=some r):Zrb C' M N' f as hh=some r:=by
 unfold Zrb at hr ⊢;by_cases hl:as.length≤f.nt
 ·rw[Kl hl] at hr ⊢;cases hv:ZP C M N f.body { sl:=WO 0 as,hp:=Um 0 hh,nx:=hh.length,m:=hh.length } with
  | none=>simp[hv,Ze3] at hr
  | some q=>rw[hv] at hr;rw[Zox h hN _ _ _ hv];exact hr
 ·rw[Ki hl] at hr;cases hr
end
section
variable (X:Fns) (M:Zp)
theorem Zmo:∀ n,(Qt X M n).le (Qt X M (n+1)):=by
 intro n
 induction n with
 | zero=>intro f as h r hr;simp[Qt] at hr
 | succ n ih=>
  intro f as h r hr;rw[Qt] at hr ⊢;cases hf:X f with
  | none=>rw[hf] at hr;cases hr
  | some g=>
   rw[hf] at hr;cases g with
   | text g=>exact ZBU ih (Nat.le_succ n) hr
   | prim p=>exact hr
noncomputable def Zd (f:Nat) (as:List AV) (h:List Zn):Option (AV×List Zn):=lim fun n=>Qt X M n f as h
noncomputable def QQ (c:Z0) (st:St):Option (Ex×St):=lim fun n=>ZP (Qt X M n) M n c st
theorem Zem (f:Nat) (as:List AV) (h:List Zn):ZAJ fun n=>Qt X M n f as h:=fun n r hr=>Zmo X M n f as h r hr
theorem ZgD (n:Nat):(Qt X M n).le (Zd X M):=fun f as h _ hr=>ZjZ (Zem X M f as h) hr
theorem Zj0 (c:Z0) (st:St):ZAJ fun n=>ZP (Qt X M n) M n c st:=fun n r hr=>Zox (Zmo X M n) (Nat.le_succ n) c st r hr
theorem ZdT {n m:Nat} (h:n≤m):(Qt X M n).le (Qt X M m):=fun f as hh _ hr=>(Zem X M f as hh).le hr h
theorem ZwZ {m:Nat→Bool} {hp:Hp} {base f:Nat} {aa:List AV} {r:Zf}
  (hr:Zeh (Zd X M) m hp base f aa=some r):∃ n,Zeh (Qt X M n) m hp base f aa=some r:=by
 unfold Zeh at hr ⊢;obtain⟨as,ab,hr⟩:=Za hr;simp only[ab,Zg];unfold Zgq at hr ⊢;by_cases hc:(as.flatMap Zy).all (Xb hp (X9 hp) (as.flatMap Zy) []).contains∧¬(Ve aa as).any (Xb hp (X9 hp) (as.flatMap Zy) []).contains∧ZcA hp (as.flatMap Zbc) (Xb hp (X9 hp) (as.flatMap Zy) [])=true
 ·rw[Kl hc] at hr;obtain⟨q,hq,hr⟩:=Za hr;obtain⟨n,hn⟩:=Zh1 hq;refine⟨n,?_⟩;rw[Kl hc,hn];exact hr
 ·rw[Ki hc] at hr;cases hr
theorem Zmp {M' : Zp} {sl:Sl} {hp:Hp} {base:Nat} {o:COp} {r:Zf} (hr:vop (Zd X M) M' sl hp base o=some r) :
  ∃ n,vop (Qt X M n) M' sl hp base o=some r:=by
 cases o with
 | call f as=>
  simp only[vop] at hr ⊢;cases hg:evO sl f<;>simp only[hg,ZeY] at hr ⊢ <;> first | exact ZwZ X M hr | exact⟨0,hr⟩
 | _=>exact⟨0,hr⟩
theorem Zyv (nx:Nat):∀ (l:List CO) (i:Nat) (sl:Sl) (hp:Hp) (r:Sl×Hp),
  ZhX (Zd X M) M nx i l sl hp=some r→∃ n,ZhX (Qt X M n) M nx i l sl hp=some r:=by
 intro l
 induction l with
 | nil=>intro i sl hp r hr;exact⟨0,hr⟩
 | cons o rest ih=>
  intro i sl hp r hr;simp only[ZhX] at hr ⊢;obtain⟨b,hb,hr⟩:=Za hr;simp only[hb,Zg];cases b
  ·simp only[Ka,Kj] at hr ⊢;exact ih _ _ _ _ hr
  ·simp only[Kk] at hr ⊢;obtain⟨q,hq,hr⟩:=Za hr;unfold YZ at hq;obtain⟨e,he,hq⟩:=Za hq;obtain⟨n1,h1⟩:=Zmp X M he;obtain⟨n2,h2⟩:=ih _ _ _ _ hr;refine⟨max n1 n2,?_⟩;unfold YZ;rw[Zvg (ZdT X M (Kar n1 n2)) h1,Zg,hq,Zg];exact Zvh (ZdT X M (Kap n1 n2)) _ _ _ _ _ _ h2
theorem Zyw {M' : Zp} {nx i:Nat} {t:Bool} {o:COp} {sl:Sl} {hp:Hp} {e:Zf} (he:WQ (Zd X M) M' nx i t o sl hp=some e) :
  ∃ n,WQ (Qt X M n) M' nx i t o sl hp=some e:=by
 unfold WQ at he ⊢;cases t
 ·simp only[Ka,Kj,ZdR] at he ⊢;obtain⟨e',aa,h2⟩:=Za he;obtain⟨n,hn⟩:=Zmp X M aa;exact⟨n,by rw[hn];exact h2⟩
 ·simp only[Kk] at he ⊢;exact Zmp X M he
theorem Zw0 {M' : Zp} (nx:Nat):∀ (l:List CO) (i:Nat) (t:Bool) (sl:Sl) (hp:Hp) (r:Sl×Hp),
  Zbd (Zd X M) M' nx i t l sl hp=some r→∃ n,Zbd (Qt X M n) M' nx i t l sl hp=some r:=by
 intro l
 induction l with
 | nil=>intro i t sl hp r hr;exact⟨0,hr⟩
 | cons o rest ih=>
  intro i t sl hp r hr;simp only[Zbd] at hr ⊢;obtain⟨b,hb,hr⟩:=Za hr;simp only[hb,Zg];cases b
  ·simp only[Ka,Kj] at hr ⊢;exact ih _ _ _ _ _ hr
  ·simp only[Kk] at hr ⊢;obtain⟨q,hq,hr⟩:=Za hr;unfold YZ at hq;obtain⟨e,he,hq⟩:=Za hq;obtain⟨n1,h1⟩:=Zyw X M he;obtain⟨n2,h2⟩:=ih _ _ _ _ _ hr;refine⟨max n1 n2,?_⟩;unfold YZ;rw[Zzs (ZdT X M (Kar n1 n2)) h1,Zg,hq,Zg];exact Zla (ZdT X M (Kap n1 n2)) _ _ _ _ _ _ _ h2
theorem Xv {c:Z0} {st:St} {n:Nat} {r:Ex×St} (h:ZP (Qt X M n) M n c st=some r):QQ X M c st=some r:=
 ZjZ (Zj0 X M c st) h
theorem VG {α:Type} {x:Nat→Option α} (h:∀ n,x n=none):lim x=none:=by
 cases hx:lim x with
 | none=>rfl
 | some r=>obtain⟨n,hn⟩:=Zh1 hx;rw[h n] at hn;cases hn
theorem Zyx (st:St):QQ X M .skip st=some (.normal,st):=Xv X M (n:=0) (by simp[ZP])
theorem Zyy (id:Nat) (st:St):QQ X M (.exit id) st=some (.exit id,st):=Xv X M (n:=0) (by simp[ZP])
theorem ZAK (st:St):QQ X M .ret st=some (.ret,st):=Xv X M (n:=0) (by simp[ZP])
theorem Zvi (n:Nat) (ops:List CO) (st:St) :
  QQ X M (.region n none ops) st=Zol st.m (st.nx+64*n) (ZhX (Zd X M) M st.nx 0 ops st.sl st.hp):=by
 cases h:ZhX (Zd X M) M st.nx 0 ops st.sl st.hp with
 | some r=>
  obtain⟨k,hk⟩:=Zyv X M _ _ _ _ _ _ h;exact Xv X M (n:=k) (by simp only[ZP,hk,Zol,Zg])
 | none=>
  refine VG fun k=>?_;simp only[ZP];cases hn:ZhX (Qt X M k) M st.nx 0 ops st.sl st.hp with
  | none=>rfl
  | some r=>rw[Zvh (ZgD X M k) _ _ _ _ _ _ hn] at h;cases h
theorem Zyz (n:Nat) (ps:List (Nat×Nat)) (ops:List CO) (st:St) :
  QQ X M (.region n (some ps) ops) st=Zol st.m (st.nx+64*n) (ZtE ops ps (Zbd (Zd X M) (Vf M) st.nx 0 false ops st.sl st.hp)):=by
 cases h:Zbd (Zd X M) (Vf M) st.nx 0 false ops st.sl st.hp with
 | some r=>
  obtain⟨k,hk⟩:=Zw0 X M _ _ _ _ _ _ _ h;cases hs:ZtE ops ps (some r) with
  | none=>
   refine VG fun k'=>?_;simp only[ZP];cases hn:Zbd (Qt X M k') (Vf M) st.nx 0 false ops st.sl st.hp with
   | none=>rfl
   | some r' =>
    have:=Zla (ZgD X M k') _ _ _ _ _ _ _ hn;rw[h] at this;cases this;rw[hs];rfl
  | some r'=>exact Xv X M (n:=k) (by simp only[ZP,hk,hs];rfl)
 | none=>
  refine VG fun k=>?_;simp only[ZP];cases hn:Zbd (Qt X M k) (Vf M) st.nx 0 false ops st.sl st.hp with
  | none=>rfl
  | some r=>rw[Zla (ZgD X M k) _ _ _ _ _ _ _ hn] at h;cases h
theorem Za4 {c:Z0} {st:St} {r:Ex×St} (h:QQ X M c st=some r):∃ n,∀ m,n≤m→ZP (Qt X M m) M m c st=some r:=by
 obtain⟨n,hn⟩:=Zh1 h;exact⟨n,fun m hm=>(Zj0 X M c st).le hn hm⟩
theorem ZAL (a b:Z0) (st:St):QQ X M (.seq a b) st=andThen (QQ X M a st) (QQ X M b):=by
 cases ha:QQ X M a st with
 | none=>
  refine VG fun n=>?_;cases h:ZP (Qt X M n) M n a st with
  | none=>simp[ZP,h,andThen]
  | some q=>rw[Xv X M h] at ha;cases ha
 | some q=>
  obtain⟨e,aa⟩:=q;obtain⟨n,hn⟩:=Za4 X M ha;cases e with
  | normal=>
   simp only[andThen];cases hb:QQ X M b aa with
   | none=>
    refine VG fun k=>?_;cases h:ZP (Qt X M k) M k (.seq a b) st with
    | none=>rfl
    | some q=>
     have h1:=(Zj0 X M (.seq a b) st).le h (Kar k n);simp only[ZP,hn _ (Kap k n),andThen] at h1;rw[Xv X M h1] at hb;cases hb
   | some q=>
    obtain⟨m,hm⟩:=Za4 X M hb;refine Xv X M (n:=max n m) ?_;simp only[ZP,hn _ (Kar n m),andThen,hm _ (Kap n m)]
  | exit id=>exact Xv X M (n:=n) (by simp only[ZP,hn _ (Kq n),andThen])
  | ret=>exact Xv X M (n:=n) (by simp only[ZP,hn _ (Kq n),andThen])
theorem ZyA (c:Opd) (a b:Z0) (st:St) :
  QQ X M (.cond c a b) st=Zjn (evO st.sl c) (QQ X M a st) (QQ X M b st):=by
 unfold Zjn;split
 ·rename_i t h;cases t
  ·simp only[Ka,Kj,QQ,ZP,h,Zjn]
  ·simp only[Kk,QQ,ZP,h,Zjn]
 ·rename_i h;refine VG fun n=>?_;simp only[ZP,Zjn]
theorem Zw1 (id:Nat) (c:Z0) (st:St):QQ X M (.block id c) st=Zh0 id (QQ X M c st):=by
 cases hc:QQ X M c st with
 | none=>
  refine VG fun n=>?_;cases h:ZP (Qt X M n) M n c st with
  | none=>simp[ZP,h,Zh0]
  | some q=>rw[Xv X M h] at hc;cases hc
 | some q=>
  obtain⟨n,hn⟩:=Za4 X M hc;cases hb:Zh0 id (some q) with
  | none=>
   obtain⟨e,aa⟩:=q;cases e<;>simp[Zh0] at hb
   split at hb<;>cases hb
  | some r=>exact Xv X M (n:=n) (by simp only[ZP,hn _ (Kq n),hb])
theorem ZyB (K:List Nat) (c:Z0) (st:St):QQ X M (.keep K c) st=Zq7 K (QQ X M c st):=by
 cases hc:QQ X M c st with
 | none=>
  refine VG fun n=>?_;cases h:ZP (Qt X M n) M n c st with
  | none=>simp[ZP,h,Zq7]
  | some q=>rw[Xv X M h] at hc;cases hc
 | some q=>
  obtain⟨n,hn⟩:=Za4 X M hc;exact Xv X M (n:=n) (by simp only[ZP,hn _ (Kq n),Zq7])
theorem ZyC (fl:Bool) (id:Nat) (i:Opd) (j:Nat) (c:Z0) (st:St):QQ X M (.link fl id i j c) st=bnd (ZgC fl id i j st) fun st1=>Zq9 id st.nx (QQ X M c st1):=by
 cases hl:ZgC fl id i j st with
 | none=>
  refine VG fun n=>?_;simp only[ZP,hl];rfl
 | some st' =>
  rw[Zg];cases hc:QQ X M c st' with
  | none=>
   refine VG fun n=>?_;cases h:ZP (Qt X M n) M n c st' with
   | none=>simp only[ZP,hl,Zg,h];rfl
   | some q=>rw[Xv X M h] at hc;cases hc
  | some q=>
   obtain⟨n,hn⟩:=Za4 X M hc;exact Xv X M (n:=n) (by simp only[ZP,hl,Zg,hn _ (Kq n)];rfl)
theorem ZyD (c:Z0) (st:St):QQ X M (.melt c) st=QQ X M c (Zvf st):=by
 cases hc:QQ X M c (Zvf st) with
 | none=>
  refine VG fun n=>?_;cases h:ZP (Qt X M n) M n c (Zvf st) with
  | none=>simp only[ZP,h]
  | some q=>rw[Xv X M h] at hc;cases hc
 | some q=>
  obtain⟨n,hn⟩:=Za4 X M hc;exact Xv X M (n:=n) (by simp only[ZP,hn _ (Kq n)])
noncomputable def Zh2 (c:Z0) (K:List Nat) (st:St):Option (Ex×St):=lim fun n=>Zbe (ZP (Qt X M n) M n c) K n st
theorem Zen (c:Z0) (K:List Nat) (st:St):ZAJ fun n=>Zbe (ZP (Qt X M n) M n c) K n st:=fun n r hr=>
 Zlb (fun _ _ h=>Zox (Zmo X M n) (Nat.le_succ n) c _ _ h) K n (n+1) st r (Nat.le_succ n) hr
theorem ZyE (c:Z0) (st:St):QQ X M (.loop c) st=Zh2 X M c (Zci st.sl) st:=by
 simp only[QQ,Zh2,ZP]
theorem Zw2 {c:Z0} {K:List Nat} {st aa : St} (h:QQ X M c (J2 K st)=some (.normal,aa)) :
  Zh2 X M c K st=Zh2 X M c K aa:=by
 obtain⟨n,hn⟩:=Za4 X M h;cases hl:Zh2 X M c K aa with
 | none=>
  refine VG fun k=>?_;cases hk:Zbe (ZP (Qt X M k) M k c) K k st with
  | none=>rfl
  | some q=>
   have h1:=(Zen X M c K st).le hk (show k≤max k n+1 by omega);simp only[Zbe] at h1;rw[hn (max k n+1) (by omega)] at h1;simp only[] at h1;have h2:=Zlb (fun _ _ h=>h) K (max k n) (max k n+1) aa q (Nat.le_succ _) h1;rw[show Zh2 X M c K aa=some q from ZjZ (Zen X M c K aa) h2] at hl;cases hl
 | some q=>
  obtain⟨m,hm⟩:=Zh1 hl;refine ZjZ (Zen X M c K st) (n:=max n m+1) ?_;simp only[Zbe,hn (max n m+1) (by omega)];exact Zlb (fun _ _ h=>Zox (ZdT X M (show m≤max n m+1 by omega)) (show m≤max n m+1 by omega) c _ _ h) K m (max n m) aa q (by omega) hm
theorem Zrc {c:Z0} {K:List Nat} {st aa : St} {e:Ex} (he:e≠.normal) (h:QQ X M c (J2 K st)=some (e,aa)) :
  Zh2 X M c K st=some (e,aa):=by
 obtain⟨n,hn⟩:=Za4 X M h;refine ZjZ (Zen X M c K st) (n:=n+1) ?_;simp only[Zbe,hn (n+1) (by omega)];cases e with
 | normal=>exact absurd rfl he
 | exit id=>rfl
 | ret=>rfl
theorem ZBV {f:Nat} {as:List AV} {h:List Zn} {fn:Zq} {r:AV×List Zn} (hx:X f=some (.text fn))
  (hl:as.length≤fn.nt) (hr:Ze3 h.length fn.res (QQ X M fn.body { sl:=WO 0 as,hp:=Um 0 h,nx:=h.length,m:=h.length })=some r) :
  Zd X M f as h=some r:=by
 cases hv:QQ X M fn.body { sl:=WO 0 as,hp:=Um 0 h,nx:=h.length,m:=h.length } with
 | none=>rw[hv] at hr;simp[Ze3] at hr
 | some q=>
  rw[hv] at hr;obtain⟨n,hn⟩:=Za4 X M hv;refine ZjZ (Zem X M f as h) (n:=n+1) ?_;simp only[Qt,hx,Zmn,Zrb,hl,Kk,hn n (Kq n)];exact hr
theorem Zj1 {f:Nat} {as:List AV} {h:List Zn} {p:List AV→List Zn→Option (AV×List Zn)} {r:AV×List Zn} (hx:X f=some (.prim p)) (hp:p as h=some r) :
  Zd X M f as h=some r:=
 ZjZ (Zem X M f as h) (n:=1) (by simp only[Qt,hx,Zmn,hp])
end
section
variable (P:Program)
def UW (nt:Nat):Code→Option Z0
 | .skip=>some .skip
 | .region _ ops draw=>bnd (QH (Zm8 P nt ops.toList) ops.toList) fun os=>if draw then (if Zq6 ops os then some (.region ops.toList.length (some (ZdO ops os)) os) else some .stuck) else some (.region ops.toList.length none os)
 | .seq a b=>bnd (UW nt a) fun a=>bnd (UW nt b) fun b=>some (.seq a b)
 | .cond c a b=>bnd (Z4 c) fun c=>bnd (UW nt a) fun a=>bnd (UW nt b) fun b=>some (.cond c a b)
 | .block id c=>bnd (UW nt c) fun c=>some (.block id c)
 | .loop c=>bnd (UW nt c) fun c=>some (.loop c)
 | .exit id=>some (.exit id)
 | .ret=>some .ret
 | _=>some .stuck
def ZgE:COp→COp
 | .buildT s _ xs=>.buildSl s xs
 | .asgT s _ x=>.assign (some s) x
 | .appT s b flat x y=>.append s b false flat x y
 | .makeT s b _ z l c=>.make s b z l c
 | c=>c
def Zmq:List CO→List CO
 | []=>[]
 | o :: r => { o with op:=ZgE o.op } :: Zmq r
def ZyF:Option (List (Nat×Nat))→List CO→List CO
 | none,ops=>Zmq ops
 | some _,ops=>ops
def Y0:Z0→Z0
 | .keep _ c=>Y0 c
 | .seq a b=>.seq (Y0 a) (Y0 b)
 | .cond c a b=>.cond c (Y0 a) (Y0 b)
 | .block id c=>.block id (Y0 c)
 | .loop c=>.loop (Y0 c)
 | .region n d ops=>.region n d (ZyF d ops)
 | .link _ _ _ _ c=>Y0 c
 | .melt c=>Y0 c
 | .skip=>.skip
 | .exit id=>.exit id
 | .ret=>.ret
 | .stuck=>.stuck
def Zmr (cf:Zq):Zq := { nt:=cf.nt,res:=cf.res,body:=Y0 cf.body }
def cRes:ResultVar→Option ZsE
 | .tmp t=>some (.tmp t)
 | .cell a t=>bnd (Zfq P t) fun g=>some (.cell a g (P.cellsOf t))
def cFun (fn:Func):Option Zq:=bnd fn.body fun c=>bnd (UW P fn.ntmps c) fun b=>bnd (QH (cRes P) fn.results.toList) fun rs=>some { nt:=fn.ntmps,res:=rs,body:=b }
end
end Go.Abs
