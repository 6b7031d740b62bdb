/- The abstract semantics: regions,codes,bodies,calls. Own text. -/
import Derived.Test.YtkdjbefmiiibpaaGreatDoorAbsOps
set_option linter.unusedVariables false
set_option linter.unusedSimpArgs false
namespace Go.Abs
open Go
inductive Ex where
 | normal
 | exit (id:Nat)
 | ret
def Xl (lo hi:Nat):Hp→Bool
 | []=>true
 | (k,_) :: r=>decide (lo≤k)&&decide (k<hi)&&Xl (k+1) hi r
def XP (gone:List Nat) (sl:Sl):Sl:=match gone with
 | []=>sl
 | _=>ZjZ (kill gone) sl
def Wg (gone:List Nat) (hp:Hp):Hp:=match gone with
 | []=>hp
 | _=>ZjZ (YN gone) hp
def Zw (sl:Sl) (dst:Option Nat) (v:AV):Sl:=match dst with
 | some t=>ins sl t v
 | none=>sl
def Zc.on (e:Zc) (dst:Option Nat) (sl:Sl) (hp:Hp):Sl×Hp:=
 (Zw (XP e.gone sl) dst e.eff.val,e.eff.on (Wg e.gone hp))
def VO (base:Nat) (dst:Option Nat) (sl:Sl) (hp:Hp) (e:Option Zc):Option (Sl×Hp):=
 bnd e fun e=>if Xl base (base+64) e.eff.adds then some (e.on dst sl hp) else none
def Zhu (want:Bool):AV→Option Bool
 | .d (.bool b)=>some (b==want)
 | .tup []=>some false
 | _=>none
def Qe (sl:Sl):Option (Nat×Bool)→Option Bool
 | none=>some true
 | some q=>Zhu q.2 (gs sl q.1)
inductive Ze where
 | skip
 | region (n:Nat) (draw:Option (List (Nat×Nat))) (ops:List CO)
 | seq (a b:Ze)
 | cond (c:Opd) (a b:Ze)
 | block (id:Nat) (c:Ze)
 | loop (c:Ze)
 | exit (id:Nat)
 | ret
 | keep (K:List Nat) (c:Ze)
 | stuck
 | link (id:Nat) (i:Opd) (j:Nat) (c:Ze)
 | melt (c:Ze)
inductive ZqX where
 | tmp (t:Nat)
 | cell (a:Nat) (g:Bool) (s:Nat)
structure ZH where
 nt:Nat
 res:List ZqX
 body:Ze
def ZmM (x:Option Opd):List Opd:=match x with
 | some y=>[y]
 | none=>[]
def ZT:COp→List Opd
 | .move x=>[x]
 | .assign _ x=>[x]
 | .pick c a b=>[c,a,b]
 | .alloc _ _=>[]
 | .box x=>[x]
 | .build _ ps=>ps.map fun q=>q.2.2
 | .buildSl _ xs=>xs
 | .load _ _ a=>[a]
 | .store _ _ a x=>[a,x]
 | .nilCheck x=>[x]
 | .bin _ _ x y=>[x,y]
 | .un _ x=>[x]
 | .eqA _ _ x y=>[x,y]
 | .convI _ x=>[x]
 | .convS x=>[x]
 | .fn _ cs=>cs
 | .make _ _ _ l c=>[l,c]
 | .slice _ x lo hi=>x :: (ZmM lo++ZmM hi)
 | .sliceS x lo hi=>x :: (ZmM lo++ZmM hi)
 | .slice0 x hi mx=>[x,hi,mx]
 | .shift _ x=>[x]
 | .part _ _ _ x=>[x]
 | .iaS _ x i=>[x,i]
 | .iaA _ _ x i=>[x,i]
 | .ixS x i=>[x,i]
 | .ixA _ _ _ x i=>[x,i]
 | .nth _ x=>[x]
 | .len x=>[x]
 | .lenS x=>[x]
 | .append _ _ _ _ x y=>[x,y]
 | .min x y=>[x,y]
 | .max x y=>[x,y]
 | .call f as=>f :: as
 | .slice3 _ x lo hi mx=>[x,lo,hi,mx]
 | .clear _ _ x=>[x]
 | .stuck=>[]
 | .buildDp _ _ xs=>xs
 | .appDp _ _ _ x y=>[x,y]
 | .asgDp _ _ x=>[x]
def ZjG:COp→Bool
 | .store _ _ _ _=>true
 | _=>false
def isApp:COp→Bool
 | .append _ _ _ _ _ _=>true
 | _=>false
def Zpz (c:COp):Bool:=ZjG c || isApp c
def CO.starts (o:CO):Bool:=ZjG o.op || o.tl
def Qb (os:List CO) (i:Nat):Bool:=match os[i]? with
 | some o=>CO.starts o
 | none=>false
def ZcO:Opd→List Nat
 | .t n=>[n]
 | _=>[]
def ZpA:Option (Nat×Bool)→List Nat
 | some q=>[q.1]
 | none=>[]
def looks (o:CO):List Nat:=(ZT o.op).flatMap ZcO++ZpA o.guard
def Xe:Option Nat→List Nat→Bool
 | some d,l=>!l.contains d
 | none,_=>true
def ZbM:Option Nat→Option Nat→Bool
 | some d,some e=>d != e
 | _,_=>true
def Yr (a b:CO):Bool:=Xe a.dst (looks b)&&ZbM a.dst b.dst&&Xe b.dst (looks a)
def Wh:Opd→Bool
 | .v a=>(ZI a).isEmpty&&!ZrA a
 | _=>true
def Ztj (os:List CO) (j i:Nat):Bool:=match os[j]?,os[i]? with
 | some a,some b=>Yr a b
 | _,_=>false
def UM:COp→Bool
 | .load _ _ _=>false
 | .store _ _ _ _=>false
 | .slice _ _ _ _=>false
 | .slice0 _ _ _=>false
 | .iaS _ _ _=>false
 | .len _=>false
 | .append _ _ _ _ _ _=>false
 | .buildSl _ _=>false
 | .buildDp _ _ _=>false
 | .appDp _ _ _ _ _=>false
 | .asgDp _ _ _=>false
 | .call _ _=>false
 | .slice3 _ _ _ _ _=>false
 | .clear _ _ _=>false
 | _=>true
def Za4:COp→Bool
 | .load _ _ _=>true
 | .slice _ _ _ _=>true
 | .slice0 _ _ _=>true
 | .iaS _ _ _=>true
 | .len _=>true
 | _=>false
def ZwO:COp→Bool
 | .clear _ _ _=>false
 | .store _ _ _ _=>false
 | .append _ _ _ _ _ _=>false
 | .buildSl _ _=>false
 | .buildDp _ _ _=>false
 | .appDp _ _ _ _ _=>false
 | .asgDp _ _ _=>false
 | .call _ _=>false
 | _=>true
def ZaI (os:List CO) (k:Nat):Option Nat:=match os[k]? with
 | some o=>o.dst
 | none=>none
def Ztk (os:List CO) (k:Nat):List Nat:=match os[k]? with
 | some o=>looks o
 | none=>[]
def ZcP (os:List CO) (k:Nat):Bool:=(List.range os.length).all fun q=>decide (q<k) || Xe (ZaI os q) (Ztk os k)
def Wl:COp→Bool
 | .move _=>true
 | _=>false
def Zhv:COp→Bool
 | .append _ _ _ _ _ _=>true
 | .buildSl _ _=>true
 | _=>false
def Zcn:COp→Bool
 | .call (.f _) _=>true
 | _=>false
def ZmN:COp→List Opd
 | .call _ as=>as
 | _=>[]
def ZwP:COp→Bool
 | .alloc _ _=>false
 | .box _=>false
 | .assign _ _=>false
 | .make _ _ _ _ _=>false
 | .fn _ _=>false
 | _=>true
def Zsa:COp→Bool
 | .buildSl _ _=>true
 | _=>false
def ZfE:AV→Bool
 | .d _=>true
 | .nil=>true
 | .nilp=>true
 | .nili=>true
 | _=>false
def W3:List AV→Bool
 | []=>true
 | c :: r=>ZfE c&&W3 r
def Zov:COp→Bool
 | .alloc _ cs=>W3 cs
 | _=>false
def ZpB (c:COp):Bool:=Za4 c || Zsa c || (UM c&&ZwP c) || Zov c
def ZlE:COp→Bool
 | .alloc _ cs=>W3 cs
 | .buildSl _ _=>true
 | .load _ _ _=>true
 | .nilCheck _=>true
 | .bin _ _ _ _=>true
 | .un _ _=>true
 | .convI _ _=>true
 | .shift _ _=>true
 | .iaS _ _ _=>true
 | .slice _ _ _ _=>true
 | .len _=>true
 | .sliceS _ _ _=>true
 | .lenS _=>true
 | _=>false
def ZC5:Option Nat→Bool
 | some _=>true
 | none=>false
def Zn2 (os:List CO) (k:Nat):Bool:=ZC5 (ZaI os k)&&(List.range os.length).all fun q=>q==k || ZbM (ZaI os q) (ZaI os k)
def ZlF (os:List CO) (j i:Nat):Bool:=ZcP os j&&ZcP os i
def ZAZ (os:List CO) (j i:Nat) (a b:COp):Bool:=
 ZwO b || (Zpz b&&(UM a || (!Wl a&&Za4 a&&ZlF os j i))) || (Wl a&&(Zhv b || Zn2 os j)) || (!Wl a&&Zcn b&&ZpB a&&ZlF os j i&&Zn2 os j)
def ZA0 (os:List CO) (j i:Nat) (a b:COp):Bool:=(Wl b&&Zn2 os i) || (!Wl b&&Zcn a&&ZlE b&&ZlF os j i&&Zn2 os i)
def Ztl (os:List CO) (j i:Nat):Bool:=match os[j]?,os[i]? with
 | some a,some b=>if Qb os j then !Qb os i&&ZA0 os j i a.op b.op else !Qb os i || ZAZ os j i a.op b.op
 | _,_=>false
def Zhw (os:List CO) (j i:Nat):Option (Nat×Nat):=match os[j]?,os[i]? with
 | some a,some b=>if Qb os j then (if Wl b.op || Zcn a.op then some (i,j) else none) else
   if Qb os i&&(if Zpz b.op then !(UM a.op) else if Wl a.op then !(Zhv b.op) else Zcn b.op) then some (j,i) else none
 | _,_=>none
def optP:Option (Nat×Nat)→List (Nat×Nat)
 | some p=>[p]
 | none=>[]
def Zed (ops:Array Oper) (os:List CO):List (Nat×Nat):=
 (List.range ops.size).flatMap fun i=>(List.range i).flatMap fun j=>if ZkF ops 6 i j then [] else optP (Zhw os j i)
def ZpC (ops:Array Oper) (os:List CO):Bool:=
 (List.range ops.size).all (fun i=>(UB ops i).all fun e=>decide (e<i)) &&
 (List.range ops.size).all (fun i=>(List.range i).all fun j=>(UB ops i).contains j || Ztj os j i) &&
 (List.range ops.size).all (fun i=>(List.range i).all fun j=>ZkF ops 6 i j || Ztl os j i) &&
 os.all (fun o=>(ZT o.op).all Wh)
def Zee (id:Nat):AV→Bool
 | .d _=>true
 | .pim _=>true
 | .nil=>true
 | .ptr k _=>k != id
 | .prow k _ _ _=>k != id
 | .own k=>k != id
 | .ownv k _ _=>k != id
 | .nilp=>true
 | .nili=>true
 | .tup []=>true
 | _=>false
def okC:AV→Bool
 | .d _=>true
 | .pim _=>true
 | .nil=>true
 | .ptr _ _=>true
 | .prow _ _ _ _=>true
 | .own _=>true
 | .ownv _ _ _=>true
 | .nilp=>true
 | .nili=>true
 | _=>false
def Ztm:List AV→Bool
 | []=>true
 | v :: r=>okC v&&Ztm r
def okV:AV→Bool
 | .agg cs=>Ztm cs
 | .tup []=>true
 | v=>okC v
def okL (sl:Sl):List Opd→Bool
 | []=>true
 | x :: r=>okV (evO sl x)&&okL sl r
def okD (sl:Sl):Option Nat→Bool
 | some t=>okV (gs sl t)
 | none=>true
def W4:AV→Option Nat
 | .ptr k _=>some k
 | .prow k _ _ _=>some k
 | _=>none
def Ye (sl:Sl) (id:Nat):List Opd→Bool
 | []=>true
 | x :: r=>Zee id (evO sl x)&&Ye sl id r
def Zhx (sl:Sl) (a:COp):Option Nat→Bool
 | some id=>Ye sl id (ZT a)
 | none=>false
def Zef (sl:Sl) (xs:List Opd):AV→Bool
 | .ptr k _=>Ye sl k xs
 | .prow _ _ _ _=>false
 | _=>true
def ZiH (sl:Sl) (xs:List Opd):List Opd→Bool
 | []=>true
 | y :: r=>Zef sl xs (evO sl y)&&ZiH sl xs r
def Zag (sl:Sl) (a:COp):AV→Bool
 | .nil=>true
 | .tup []=>true
 | .own k=>Ye sl k (ZT a)
 | .ownv k _ _=>Ye sl k (ZT a)
 | .sub k _=>Ye sl k (ZT a)
 | _=>false
def seenSrc (sl:Sl) (a:COp):AV→Bool
 | .own k=>Ye sl k (ZT a)
 | v=>okV v
def Zar (sl:Sl) (d:Option Nat):COp→COp→Bool
 | .move _,_=>okD sl d
 | a,.store _ _ x _=>Zhx sl a (W4 (evO sl x))
 | a,.append _ _ _ flat x y=>Zag sl a (evO sl x)&&(flat || seenSrc sl a (evO sl y))
 | a,.call _ as=>okL sl (ZT a)&&(okD sl d&&(okL sl as&&ZiH sl (ZT a) as))
 | _,_=>false
def ZlG (os:List CO) (sl:Sl) (p:Nat×Nat):Bool:=match os[p.1]?,os[p.2]? with
 | some a,some b=>Zar sl a.dst a.op b.op
 | _,_=>false
def Zah (os:List CO) (sl:Sl):List (Nat×Nat)→Bool
 | []=>true
 | p :: r=>ZlG os sl p&&Zah os sl r
section
variable (C:Orc) (M:Zt)
noncomputable def ZgJ (nx:Nat):Nat→List CO→Sl→Hp→Option (Sl×Hp)
 | _,[],sl,hp=>some (sl,hp)
 | i,o :: rest,sl,hp=>bnd (Qe sl o.guard) fun b=>
   if b then bnd (VO (nx+64*i) o.dst sl hp (vop C M sl hp (nx+64*i) o.op)) fun r=>ZgJ nx (i+1) rest r.1 r.2
   else ZgJ nx (i+1) rest (Zw sl o.dst (.tup [])) hp
def Zhy (c:Zc):List Nat→Hp→List Nat→List Nat→Option Zc
 | [],[],[],[]=>some c
 | _,_,_,_=>none
def Zeg (e:Option Zc):Option Zc:=bnd e fun c=>Zhy c c.gone c.eff.sets c.eff.dels c.eff.frz
noncomputable def UE (nx i:Nat) (tail:Bool) (o:COp) (sl:Sl) (hp:Hp):Option Zc:=
 if tail then vop C M sl hp (nx+64*i) o else Zeg (vop C M sl hp (nx+64*i) o)
noncomputable def JV (nx:Nat):Nat→Bool→List CO→Sl→Hp→Option (Sl×Hp)
 | _,_,[],sl,hp=>some (sl,hp)
 | i,t,o :: rest,sl,hp=>bnd (Qe sl o.guard) fun b=>
   if b then bnd (VO (nx+64*i) o.dst sl hp (UE C M nx i (CO.starts o) o.op sl hp)) fun r=>JV nx (i+1) t rest r.1 r.2
   else JV nx (i+1) t rest (Zw sl o.dst (.tup [])) hp
def ZkI {α:Type}:List (Nat×α)→List Nat
 | []=>[]
 | (k,_) :: r=>k :: ZkI r
def only {α:Type} (K:List Nat):List (Nat×α)→List (Nat×α)
 | []=>[]
 | (k,v) :: r=>if K.contains k then (k,v) :: only K r else only K r
def W5:Nat→List Zo→Hp
 | _,[]=>[]
 | k,o :: r=>W5 (k+1) r++[(k,o)]
def ZpD:Sl→List Nat
 | []=>[]
 | (_,v) :: r=>ZI v++ZpD r
def Za5:Option Zo→Bool
 | some _=>true
 | none=>false
def ZfF (hp:Hp) (ids:List Nat) (i:Nat):Bool:=ids.contains i&&Za5 (lkp hp i)
def ZiI (hp:Hp) (ids:List Nat):List Nat→List Nat
 | []=>[]
 | i :: r=>if ZfF hp ids i then ZiI hp ids r else i :: ZiI hp ids r
def ZgK (hp:Hp) (ids:List Nat) (v:AV):AV:=ren (UA ids) (kill (ZiI hp ids (ZI v)) v)
def ZiJ (hp:Hp) (ids:List Nat) (o:Zo):Zo:=Zn0 (UA ids) (YN (ZiI hp ids (Zcq o)) o)
def ZwQ:Option Zo→List Nat
 | some o=>Zcq o
 | none=>[]
def UD (hp:Hp):List Nat→List Nat
 | []=>[]
 | id :: r=>ZwQ (lkp hp id)++UD hp r
def JG (K:List Nat) (st:St):St:=
 let sl:=only K st.sl
 let ids:=Xd st.hp (XO st.hp) (ZpD sl++UD st.hp (List.range st.m)) (List.range st.m)
 { sl:=ZjZ (ZgK st.hp ids) sl,hp:=W5 0 ((Zd3 st.hp ids).map (ZiJ st.hp ids)),nx:=ids.length,m:=st.m }
def JW (f:St→Option (Ex×St)) (K:List Nat):Nat→St→Option (Ex×St)
 | 0,_=>none
 | n+1,st=>match f (JG K st) with
  | some (.normal,st')=>JW f K n st'
  | r=>r
def andThen (r:Option (Ex×St)) (k:St→Option (Ex×St)):Option (Ex×St):=match r with
 | some (.normal,st)=>k st
 | r=>r
def ZiK (v:AV) (a b:Option (Ex×St)):Option (Ex×St):=match v with
 | .d (.bool t)=>if t then a else b
 | _=>none
def Zh9 (id:Nat) (r:Option (Ex×St)):Option (Ex×St):=match r with
 | some (.exit j,st)=>if j=id then some (.normal,st) else some (.exit j,st)
 | r=>r
def ZpE (ops:List CO) (ps:List (Nat×Nat)) (r:Option (Sl×Hp)):Option (Sl×Hp):=bnd r fun r=>if Zah ops r.1 ps then some r else none
def ZlH (m nx:Nat) (r:Option (Sl×Hp)):Option (Ex×St):=bnd r fun r=>some (.normal,{ sl:=r.1,hp:=r.2,nx:=nx,m:=m })
def ZnF (K:List Nat) (r:Option (Ex×St)):Option (Ex×St):=match r with
 | some q=>some (q.1,{ q.2 with sl:=only K q.2.sl })
 | none=>none
def Zx7 (nx n j:Nat):Option Zo→Option Zo
 | some (.deep s k xs _)=>bnd (Zlv xs n j) fun _=>some (.deep s k xs (some (nx,n,j)))
 | _=>none
def ZfG (id:Nat) (i:Opd) (j:Nat) (st:St):Option St:=bnd (idx (evO st.sl i)) fun n=>if 0≤n then bnd (Zx7 st.nx n.toNat j (lkp st.hp id)) fun o=>some { st with hp:=ins st.hp id o,nx:=st.nx+64 } else none
def Ztn (st:St):St := { st with hp:=ZjZ Zd7 st.hp }
noncomputable def ZL (N:Nat):Ze→St→Option (Ex×St)
 | .skip,st=>some (.normal,st)
 | .region n none ops,st=>ZlH st.m (st.nx+64*n) (ZgJ C M st.nx 0 ops st.sl st.hp)
 | .region n (some ps) ops,st=>ZlH st.m (st.nx+64*n) (ZpE ops ps (JV C M st.nx 0 false ops st.sl st.hp))
 | .seq a b,st=>andThen (ZL N a st) (ZL N b)
 | .cond c a b,st=>ZiK (evO st.sl c) (ZL N a st) (ZL N b st)
 | .block id c,st=>Zh9 id (ZL N c st)
 | .loop c,st=>JW (ZL N c) (ZkI st.sl) N st
 | .exit id,st=>some (.exit id,st)
 | .ret,st=>some (.ret,st)
 | .keep K c,st=>ZnF K (ZL N c st)
 | .stuck,_=>none
 | .link id i j c,st=>bnd (ZfG id i j st) (ZL N c)
 | .melt c,st=>ZL N c (Ztn st)
def Zn3 (st:St):ZqX→Option AV
 | .tmp t=>some (gs st.sl t)
 | .cell a g s=>JU st.hp g s (gs st.sl a)
def Wm (m:Nat) (hp:Hp) (v:AV):AV×List Zo:=
 let ids:=Xd hp (XO hp) (ZI v++UD hp (List.range m)) (List.range m)
 (ZgK hp ids v,(Zd3 hp ids).map (ZiJ hp ids))
def Zx8:AV→Bool
 | .tup _=>true
 | _=>false
def ZkJ:List AV→Bool
 | []=>false
 | v :: r=>Zx8 v || ZkJ r
def Zdq:List AV→AV
 | [v]=>v
 | vs=>if ZkJ vs then .junk else .tup vs
def UN:Nat→List AV→Sl
 | _,[]=>[]
 | k,v :: r=>UN (k+1) r++[(k,v)]
def ZcQ (m:Nat) (rs:List ZqX) (r:Option (Ex×St)):Option (AV×List Zo):=match r with
 | some (.normal,st)=>bnd (Q6 (Zn3 st) rs) fun vs=>some (Wm m st.hp (Zdq vs))
 | some (.ret,st)=>bnd (Q6 (Zn3 st) rs) fun vs=>some (Wm m st.hp (Zdq vs))
 | _=>none
noncomputable def ZlI (N:Nat) (fn:ZH) (as:List AV) (h:List Zo):Option (AV×List Zo):=
 if as.length≤fn.nt then ZcQ h.length fn.res (ZL C M N fn.body { sl:=UN 0 as,hp:=W5 0 h,nx:=h.length,m:=h.length }) else none
end
inductive Fn where
 | text (f:ZH)
 | prim (p:List AV→List Zo→Option (AV×List Zo))
abbrev Fns:=Nat→Option Fn
noncomputable def Zhz (C:Orc) (M:Zt) (N:Nat) (as:List AV) (h:List Zo):Option Fn→Option (AV×List Zo)
 | some (.text f)=>ZlI C M N f as h
 | some (.prim p)=>p as h
 | none=>none
noncomputable def QC (X:Fns) (M:Zt):Nat→Orc
 | 0,_,_,_=>none
 | n+1,f,as,h=>Zhz (QC X M n) M n as h (X f)
open Classical in
noncomputable def lim {α:Type} (x:Nat→Option α):Option α:=if h:∃ r,∃ n,x n=some r then some h.choose else none
def Zzq {α:Type} (x:Nat→Option α):Prop:=∀ n r,x n=some r→x (n+1)=some r
theorem Zzq.le {α:Type} {x:Nat→Option α} (h:Zzq x) {n m:Nat} {r:α} (hr:x n=some r) (hnm:n≤m):x m=some r:=by
 induction hnm with
 | refl=>exact hr
 | step _ ih=>exact h _ _ ih
theorem ZkK {α:Type} {x:Nat→Option α} (h:Zzq x) {n:Nat} {r:α} (hr:x n=some r):lim x=some r:=by
 have he:∃ r,∃ n,x n=some r:=⟨r,n,hr⟩
 unfold lim
 rw[dif_pos he]
 obtain⟨m,hm⟩:=he.choose_spec
 have h1:=h.le hm (Nat.le_max_left m n)
 have h2:=h.le hr (Nat.le_max_right m n)
 rw[h1] at h2
 exact h2
theorem ZiL {α:Type} {x:Nat→Option α} {r:α} (hr:lim x=some r):∃ n,x n=some r:=by
 unfold lim at hr
 split at hr
 ·rename_i h
  obtain⟨n,hn⟩:=h.choose_spec
  exact⟨n,by rw[hn];exact hr⟩
 ·cases hr
def Orc.le (C C' : Orc):Prop:=∀ f as h r,C f as h=some r→C' f as h=some r
section
variable {M:Zt} {C C' : Orc}
theorem ZcR {α β:Type} {x x' : Option α} {f f' : α→Option β} {r:β} (hx:∀ a,x=some a→x'=some a) (hf:∀ a,f a=some r→f' a=some r) (h:bnd x f=some r):bnd x' f'=some r:=by
 obtain⟨a,h1,h2⟩:=Za h
 rw[hx a h1];exact hf a h2
theorem ZA1 (h:C.le C') {m:Nat→Bool} {hp:Hp} {base f:Nat} {avs:List AV} {r:Zc}
  (hr:Zdn C m hp base f avs=some r):Zdn C' m hp base f avs=some r:=by
 unfold Zdn at hr ⊢
 refine ZcR (fun _ h=>h) (fun as hr=>?_) hr
 unfold Zfe at hr ⊢
 by_cases hc:(as.flatMap ZI).all (Xd hp (XO hp) (as.flatMap ZI) []).contains∧¬(V1 avs as).any (Xd hp (XO hp) (as.flatMap ZI) []).contains∧Zdz hp (as.flatMap Zct) (Xd hp (XO hp) (as.flatMap ZI) [])=true
 ·rw[if_pos hc] at hr ⊢
  exact ZcR (fun q hq=>h _ _ _ _ hq) (fun _ h=>h) hr
 ·rw[if_neg hc] at hr;cases hr
theorem Zto (h:C.le C') {sl:Sl} {hp:Hp} {base:Nat} {o:COp} {r:Zc} (hr:vop C M sl hp base o=some r) :
  vop C' M sl hp base o=some r:=by
 cases o with
 | call f as=>
  simp only[vop] at hr ⊢
  cases hg:evO sl f<;>simp only[hg,Zd8] at hr ⊢ <;> first | exact ZA1 h hr | exact hr
 | _=>exact hr
theorem Ztp (h:C.le C') (nx:Nat):∀ (l:List CO) (i:Nat) (sl:Sl) (hp:Hp) (r:Sl×Hp),
  ZgJ C M nx i l sl hp=some r→ZgJ C' M nx i l sl hp=some r:=by
 intro l
 induction l with
 | nil=>intro i sl hp r hr;exact hr
 | cons o rest ih=>
  intro i sl hp r hr
  simp only[ZgJ] at hr ⊢
  refine ZcR (fun _ h=>h) (fun b hr=>?_) hr
  cases b
  ·simp only[Bool.false_eq_true,if_false] at hr ⊢
   exact ih _ _ _ _ hr
  ·simp only[if_true] at hr ⊢
   refine ZcR (fun q hq=>?_) (fun q hq=>ih _ _ _ _ hq) hr
   unfold VO at hq ⊢
   exact ZcR (fun e he=>Zto h he) (fun _ h=>h) hq
theorem Zx9 (h:C.le C') {nx i:Nat} {t:Bool} {o:COp} {sl:Sl} {hp:Hp} {e:Zc} (he:UE C M nx i t o sl hp=some e) :
  UE C' M nx i t o sl hp=some e:=by
 unfold UE at he ⊢
 cases t
 ·simp only[Bool.false_eq_true,if_false,Zeg] at he ⊢
  exact ZcR (fun _ hv=>Zto h hv) (fun _ h=>h) he
 ·simp only[if_true] at he ⊢
  exact Zto h he
theorem ZlJ (h:C.le C') (nx:Nat):∀ (l:List CO) (i:Nat) (t:Bool) (sl:Sl) (hp:Hp) (r:Sl×Hp),
  JV C M nx i t l sl hp=some r→JV C' M nx i t l sl hp=some r:=by
 intro l
 induction l with
 | nil=>intro i t sl hp r hr;exact hr
 | cons o rest ih=>
  intro i t sl hp r hr
  simp only[JV] at hr ⊢
  refine ZcR (fun _ h=>h) (fun b hr=>?_) hr
  cases b
  ·simp only[Bool.false_eq_true,if_false] at hr ⊢
   exact ih _ _ _ _ _ hr
  ·simp only[if_true] at hr ⊢
   refine ZcR (fun q hq=>?_) (fun q hq=>ih _ _ _ _ _ hq) hr
   unfold VO at hq ⊢
   exact ZcR (fun e he=>Zx9 h he) (fun _ h=>h) hq
theorem ZlK {f g:St→Option (Ex×St)} (h:∀ st r,f st=some r→g st=some r) (K:List Nat) :
  ∀ (n m:Nat) (st:St) (r:Ex×St),n≤m→JW f K n st=some r→JW g K m st=some r:=by
 intro n
 induction n with
 | zero=>intro m st r _ hr;simp[JW] at hr
 | succ n ih=>
  intro m st r hm hr
  cases m with
  | zero=>omega
  | succ m=>
   simp only[JW] at hr ⊢
   cases hf:f (JG K st) with
   | none=>simp[hf] at hr
   | some q=>
    rw[hf] at hr
    rw[h _ _ hf]
    obtain⟨e,st'⟩:=q
    cases e with
    | normal=>exact ih m st' r (by omega) hr
    | exit id=>exact hr
    | ret=>exact hr
theorem Zow (h:C.le C') {N N' : Nat} (hN:N≤N'):∀ (c:Ze) (st:St) (r:Ex×St),
  ZL C M N c st=some r→ZL C' M N' c st=some r:=by
 intro c
 induction c with
 | skip=>intro st r hr;simpa [ZL] using hr
 | region n draw ops=>
  intro st r hr
  cases draw
  ·simp only[ZL,ZlH] at hr ⊢
   exact ZcR (fun q hq=>Ztp h _ _ _ _ _ _ hq) (fun _ h=>h) hr
  ·simp only[ZL,ZlH,ZpE] at hr ⊢
   exact ZcR (fun q hq=>ZcR (fun q hq=>ZlJ h _ _ _ _ _ _ _ hq) (fun _ h=>h) hq) (fun _ h=>h) hr
 | seq a b iha ihb=>
  intro st r hr
  simp only[ZL] at hr ⊢
  cases ha:ZL C M N a st with
  | none=>simp[ha,andThen] at hr
  | some q=>
   rw[ha] at hr
   rw[iha _ _ ha]
   obtain⟨e,st'⟩:=q
   cases e with
   | normal=>exact ihb _ _ hr
   | exit id=>exact hr
   | ret=>exact hr
 | cond c a b iha ihb=>
  intro st r hr
  simp only[ZL,ZiK] at hr ⊢
  split at hr
  ·rename_i t ht
   cases t
   ·simp only[Bool.false_eq_true,if_false] at hr ⊢;exact ihb _ _ hr
   ·simp only[if_true] at hr ⊢;exact iha _ _ hr
  ·cases hr
 | block id c ih=>
  intro st r hr
  simp only[ZL] at hr ⊢
  cases hc:ZL C M N c st with
  | none=>simp[hc,Zh9] at hr
  | some q=>rw[hc] at hr;rw[ih _ _ hc];exact hr
 | loop c ih=>
  intro st r hr
  simp only[ZL] at hr ⊢
  exact ZlK ih _ _ _ _ _ hN hr
 | exit id=>intro st r hr;simpa [ZL] using hr
 | ret=>intro st r hr;simpa [ZL] using hr
 | keep K c ih=>
  intro st r hr
  simp only[ZL] at hr ⊢
  cases hc:ZL C M N c st with
  | none=>simp[hc,ZnF] at hr
  | some q=>rw[hc] at hr;rw[ih _ _ hc];exact hr
 | stuck=>intro st r hr;simp[ZL] at hr
 | link id i j c ih=>
  intro st r hr
  simp only[ZL] at hr ⊢
  obtain⟨st',h1,h2⟩:=Za hr
  rw[h1,Zf]
  exact ih st' r h2
 | melt c ih=>
  intro st r hr
  simp only[ZL] at hr ⊢
  exact ih _ r hr
theorem ZA2 (h:C.le C') {N N' : Nat} (hN:N≤N') {f:ZH} {as:List AV} {hh:List Zo} {r:AV×List Zo}
  (hr:ZlI C M N f as hh=some r):ZlI C' M N' f as hh=some r:=by
 unfold ZlI at hr ⊢
 by_cases hl:as.length≤f.nt
 ·rw[if_pos hl] at hr ⊢
  cases hv:ZL C M N f.body { sl:=UN 0 as,hp:=W5 0 hh,nx:=hh.length,m:=hh.length } with
  | none=>simp[hv,ZcQ] at hr
  | some q=>rw[hv] at hr;rw[Zow h hN _ _ _ hv];exact hr
 ·rw[if_neg hl] at hr;cases hr
end
section
variable (X:Fns) (M:Zt)
theorem ZmO:∀ n,(QC X M n).le (QC X M (n+1)):=by
 intro n
 induction n with
 | zero=>intro f as h r hr;simp[QC] at hr
 | succ n ih=>
  intro f as h r hr
  rw[QC] at hr ⊢
  cases hf:X f with
  | none=>rw[hf] at hr;cases hr
  | some g=>
   rw[hf] at hr
   cases g with
   | text g=>exact ZA2 ih (Nat.le_succ n) hr
   | prim p=>exact hr
noncomputable def Zh (f:Nat) (as:List AV) (h:List Zo):Option (AV×List Zo):=lim fun n=>QC X M n f as h
noncomputable def Xh (c:Ze) (st:St):Option (Ex×St):=lim fun n=>ZL (QC X M n) M n c st
theorem Zfk (f:Nat) (as:List AV) (h:List Zo):Zzq fun n=>QC X M n f as h:=fun n r hr=>ZmO X M n f as h r hr
theorem ZhA (n:Nat):(QC X M n).le (Zh X M):=fun f as h _ hr=>ZkK (Zfk X M f as h) hr
theorem ZkL (c:Ze) (st:St):Zzq fun n=>ZL (QC X M n) M n c st:=fun n r hr=>Zow (ZmO X M n) (Nat.le_succ n) c st r hr
theorem Zeh {n m:Nat} (h:n≤m):(QC X M n).le (QC X M m):=fun f as hh _ hr=>(Zfk X M f as hh).le hr h
theorem ZuW {m:Nat→Bool} {hp:Hp} {base f:Nat} {avs:List AV} {r:Zc}
  (hr:Zdn (Zh X M) m hp base f avs=some r):∃ n,Zdn (QC X M n) m hp base f avs=some r:=by
 unfold Zdn at hr ⊢
 obtain⟨as,has,hr⟩:=Za hr
 simp only[has,Zf]
 unfold Zfe at hr ⊢
 by_cases hc:(as.flatMap ZI).all (Xd hp (XO hp) (as.flatMap ZI) []).contains∧¬(V1 avs as).any (Xd hp (XO hp) (as.flatMap ZI) []).contains∧Zdz hp (as.flatMap Zct) (Xd hp (XO hp) (as.flatMap ZI) [])=true
 ·rw[if_pos hc] at hr
  obtain⟨q,hq,hr⟩:=Za hr
  obtain⟨n,hn⟩:=ZiL hq
  refine⟨n,?_⟩
  rw[if_pos hc,hn]
  exact hr
 ·rw[if_neg hc] at hr;cases hr
theorem ZmP {sl:Sl} {hp:Hp} {base:Nat} {o:COp} {r:Zc} (hr:vop (Zh X M) M sl hp base o=some r) :
  ∃ n,vop (QC X M n) M sl hp base o=some r:=by
 cases o with
 | call f as=>
  simp only[vop] at hr ⊢
  cases hg:evO sl f<;>simp only[hg,Zd8] at hr ⊢ <;> first | exact ZuW X M hr | exact⟨0,hr⟩
 | _=>exact⟨0,hr⟩
theorem ZwR (nx:Nat):∀ (l:List CO) (i:Nat) (sl:Sl) (hp:Hp) (r:Sl×Hp),
  ZgJ (Zh X M) M nx i l sl hp=some r→∃ n,ZgJ (QC X M n) M nx i l sl hp=some r:=by
 intro l
 induction l with
 | nil=>intro i sl hp r hr;exact⟨0,hr⟩
 | cons o rest ih=>
  intro i sl hp r hr
  simp only[ZgJ] at hr ⊢
  obtain⟨b,hb,hr⟩:=Za hr
  simp only[hb,Zf]
  cases b
  ·simp only[Bool.false_eq_true,if_false] at hr ⊢
   exact ih _ _ _ _ hr
  ·simp only[if_true] at hr ⊢
   obtain⟨q,hq,hr⟩:=Za hr
   unfold VO at hq
   obtain⟨e,he,hq⟩:=Za hq
   obtain⟨n1,h1⟩:=ZmP X M he
   obtain⟨n2,h2⟩:=ih _ _ _ _ hr
   refine⟨max n1 n2,?_⟩
   unfold VO
   rw[Zto (Zeh X M (Nat.le_max_left n1 n2)) h1,Zf,hq,Zf]
   exact Ztp (Zeh X M (Nat.le_max_right n1 n2)) _ _ _ _ _ _ h2
theorem ZwS {nx i:Nat} {t:Bool} {o:COp} {sl:Sl} {hp:Hp} {e:Zc} (he:UE (Zh X M) M nx i t o sl hp=some e) :
  ∃ n,UE (QC X M n) M nx i t o sl hp=some e:=by
 unfold UE at he ⊢
 cases t
 ·simp only[Bool.false_eq_true,if_false,Zeg] at he ⊢
  obtain⟨e',he',h2⟩:=Za he
  obtain⟨n,hn⟩:=ZmP X M he'
  exact⟨n,by rw[hn];exact h2⟩
 ·simp only[if_true] at he ⊢
  exact ZmP X M he
theorem ZuX (nx:Nat):∀ (l:List CO) (i:Nat) (t:Bool) (sl:Sl) (hp:Hp) (r:Sl×Hp),
  JV (Zh X M) M nx i t l sl hp=some r→∃ n,JV (QC X M n) M nx i t l sl hp=some r:=by
 intro l
 induction l with
 | nil=>intro i t sl hp r hr;exact⟨0,hr⟩
 | cons o rest ih=>
  intro i t sl hp r hr
  simp only[JV] at hr ⊢
  obtain⟨b,hb,hr⟩:=Za hr
  simp only[hb,Zf]
  cases b
  ·simp only[Bool.false_eq_true,if_false] at hr ⊢
   exact ih _ _ _ _ _ hr
  ·simp only[if_true] at hr ⊢
   obtain⟨q,hq,hr⟩:=Za hr
   unfold VO at hq
   obtain⟨e,he,hq⟩:=Za hq
   obtain⟨n1,h1⟩:=ZwS X M he
   obtain⟨n2,h2⟩:=ih _ _ _ _ _ hr
   refine⟨max n1 n2,?_⟩
   unfold VO
   rw[Zx9 (Zeh X M (Nat.le_max_left n1 n2)) h1,Zf,hq,Zf]
   exact ZlJ (Zeh X M (Nat.le_max_right n1 n2)) _ _ _ _ _ _ _ h2
theorem Yg {c:Ze} {st:St} {n:Nat} {r:Ex×St} (h:ZL (QC X M n) M n c st=some r):Xh X M c st=some r:=
 ZkK (ZkL X M c st) h
theorem Wn {α:Type} {x:Nat→Option α} (h:∀ n,x n=none):lim x=none:=by
 cases hx:lim x with
 | none=>rfl
 | some r=>obtain⟨n,hn⟩:=ZiL hx;rw[h n] at hn;cases hn
theorem ZwT (st:St):Xh X M .skip st=some (.normal,st):=Yg X M (n:=0) (by simp[ZL])
theorem ZwU (id:Nat) (st:St):Xh X M (.exit id) st=some (.exit id,st):=Yg X M (n:=0) (by simp[ZL])
theorem Zzr (st:St):Xh X M .ret st=some (.ret,st):=Yg X M (n:=0) (by simp[ZL])
theorem Ztq (n:Nat) (ops:List CO) (st:St) :
  Xh X M (.region n none ops) st=ZlH st.m (st.nx+64*n) (ZgJ (Zh X M) M st.nx 0 ops st.sl st.hp):=by
 cases h:ZgJ (Zh X M) M st.nx 0 ops st.sl st.hp with
 | some r=>
  obtain⟨k,hk⟩:=ZwR X M _ _ _ _ _ _ h
  exact Yg X M (n:=k) (by simp only[ZL,hk,ZlH,Zf])
 | none=>
  refine Wn fun k=>?_
  simp only[ZL]
  cases hn:ZgJ (QC X M k) M st.nx 0 ops st.sl st.hp with
  | none=>rfl
  | some r=>rw[Ztp (ZhA X M k) _ _ _ _ _ _ hn] at h;cases h
theorem ZwV (n:Nat) (ps:List (Nat×Nat)) (ops:List CO) (st:St) :
  Xh X M (.region n (some ps) ops) st=ZlH st.m (st.nx+64*n) (ZpE ops ps (JV (Zh X M) M st.nx 0 false ops st.sl st.hp)):=by
 cases h:JV (Zh X M) M st.nx 0 false ops st.sl st.hp with
 | some r=>
  obtain⟨k,hk⟩:=ZuX X M _ _ _ _ _ _ _ h
  cases hs:ZpE ops ps (some r) with
  | none=>
   refine Wn fun k'=>?_
   simp only[ZL]
   cases hn:JV (QC X M k') M st.nx 0 false ops st.sl st.hp with
   | none=>rfl
   | some r' =>
    have:=ZlJ (ZhA X M k') _ _ _ _ _ _ _ hn
    rw[h] at this
    cases this
    rw[hs];rfl
  | some r'=>exact Yg X M (n:=k) (by simp only[ZL,hk,hs];rfl)
 | none=>
  refine Wn fun k=>?_
  simp only[ZL]
  cases hn:JV (QC X M k) M st.nx 0 false ops st.sl st.hp with
  | none=>rfl
  | some r=>rw[ZlJ (ZhA X M k) _ _ _ _ _ _ _ hn] at h;cases h
theorem Za6 {c:Ze} {st:St} {r:Ex×St} (h:Xh X M c st=some r):∃ n,∀ m,n≤m→ZL (QC X M m) M m c st=some r:=by
 obtain⟨n,hn⟩:=ZiL h
 exact⟨n,fun m hm=>(ZkL X M c st).le hn hm⟩
theorem Zzs (a b:Ze) (st:St):Xh X M (.seq a b) st=andThen (Xh X M a st) (Xh X M b):=by
 cases ha:Xh X M a st with
 | none=>
  refine Wn fun n=>?_
  cases h:ZL (QC X M n) M n a st with
  | none=>simp[ZL,h,andThen]
  | some q=>rw[Yg X M h] at ha;cases ha
 | some q=>
  obtain⟨e,st'⟩:=q
  obtain⟨n,hn⟩:=Za6 X M ha
  cases e with
  | normal=>
   simp only[andThen]
   cases hb:Xh X M b st' with
   | none=>
    refine Wn fun k=>?_
    cases h:ZL (QC X M k) M k (.seq a b) st with
    | none=>rfl
    | some q=>
     have h1:=(ZkL X M (.seq a b) st).le h (Nat.le_max_left k n)
     simp only[ZL,hn _ (Nat.le_max_right k n),andThen] at h1
     rw[Yg X M h1] at hb
     cases hb
   | some q=>
    obtain⟨m,hm⟩:=Za6 X M hb
    refine Yg X M (n:=max n m) ?_
    simp only[ZL,hn _ (Nat.le_max_left n m),andThen,hm _ (Nat.le_max_right n m)]
  | exit id=>exact Yg X M (n:=n) (by simp only[ZL,hn _ (Nat.le_refl n),andThen])
  | ret=>exact Yg X M (n:=n) (by simp only[ZL,hn _ (Nat.le_refl n),andThen])
theorem ZwW (c:Opd) (a b:Ze) (st:St) :
  Xh X M (.cond c a b) st=ZiK (evO st.sl c) (Xh X M a st) (Xh X M b st):=by
 unfold ZiK
 split
 ·rename_i t h
  cases t
  ·simp only[Bool.false_eq_true,if_false,Xh,ZL,h,ZiK]
  ·simp only[if_true,Xh,ZL,h,ZiK]
 ·rename_i h
  refine Wn fun n=>?_
  simp only[ZL,ZiK]
theorem ZuY (id:Nat) (c:Ze) (st:St):Xh X M (.block id c) st=Zh9 id (Xh X M c st):=by
 cases hc:Xh X M c st with
 | none=>
  refine Wn fun n=>?_
  cases h:ZL (QC X M n) M n c st with
  | none=>simp[ZL,h,Zh9]
  | some q=>rw[Yg X M h] at hc;cases hc
 | some q=>
  obtain⟨n,hn⟩:=Za6 X M hc
  cases hb:Zh9 id (some q) with
  | none=>
   obtain⟨e,st'⟩:=q
   cases e<;>simp[Zh9] at hb
   split at hb<;>cases hb
  | some r=>exact Yg X M (n:=n) (by simp only[ZL,hn _ (Nat.le_refl n),hb])
theorem ZwX (K:List Nat) (c:Ze) (st:St):Xh X M (.keep K c) st=ZnF K (Xh X M c st):=by
 cases hc:Xh X M c st with
 | none=>
  refine Wn fun n=>?_
  cases h:ZL (QC X M n) M n c st with
  | none=>simp[ZL,h,ZnF]
  | some q=>rw[Yg X M h] at hc;cases hc
 | some q=>
  obtain⟨n,hn⟩:=Za6 X M hc
  exact Yg X M (n:=n) (by simp only[ZL,hn _ (Nat.le_refl n),ZnF])
theorem ZwY (id:Nat) (i:Opd) (j:Nat) (c:Ze) (st:St):Xh X M (.link id i j c) st=bnd (ZfG id i j st) (Xh X M c):=by
 cases hl:ZfG id i j st with
 | none=>
  refine Wn fun n=>?_
  simp only[ZL,hl];rfl
 | some st' =>
  rw[Zf]
  cases hc:Xh X M c st' with
  | none=>
   refine Wn fun n=>?_
   cases h:ZL (QC X M n) M n c st' with
   | none=>simp only[ZL,hl,Zf,h]
   | some q=>rw[Yg X M h] at hc;cases hc
  | some q=>
   obtain⟨n,hn⟩:=Za6 X M hc
   exact Yg X M (n:=n) (by simp only[ZL,hl,Zf,hn _ (Nat.le_refl n)])
theorem ZwZ (c:Ze) (st:St):Xh X M (.melt c) st=Xh X M c (Ztn st):=by
 cases hc:Xh X M c (Ztn st) with
 | none=>
  refine Wn fun n=>?_
  cases h:ZL (QC X M n) M n c (Ztn st) with
  | none=>simp only[ZL,h]
  | some q=>rw[Yg X M h] at hc;cases hc
 | some q=>
  obtain⟨n,hn⟩:=Za6 X M hc
  exact Yg X M (n:=n) (by simp only[ZL,hn _ (Nat.le_refl n)])
noncomputable def ZiM (c:Ze) (K:List Nat) (st:St):Option (Ex×St):=lim fun n=>JW (ZL (QC X M n) M n c) K n st
theorem Zfl (c:Ze) (K:List Nat) (st:St):Zzq fun n=>JW (ZL (QC X M n) M n c) K n st:=fun n r hr=>
 ZlK (fun _ _ h=>Zow (ZmO X M n) (Nat.le_succ n) c _ _ h) K n (n+1) st r (Nat.le_succ n) hr
theorem Zw0 (c:Ze) (st:St):Xh X M (.loop c) st=ZiM X M c (ZkI st.sl) st:=by
 simp only[Xh,ZiM,ZL]
theorem ZuZ {c:Ze} {K:List Nat} {st st' : St} (h:Xh X M c (JG K st)=some (.normal,st')) :
  ZiM X M c K st=ZiM X M c K st':=by
 obtain⟨n,hn⟩:=Za6 X M h
 cases hl:ZiM X M c K st' with
 | none=>
  refine Wn fun k=>?_
  cases hk:JW (ZL (QC X M k) M k c) K k st with
  | none=>rfl
  | some q=>
   have h1:=(Zfl X M c K st).le hk (show k≤max k n+1 by omega)
   simp only[JW] at h1
   rw[hn (max k n+1) (by omega)] at h1
   simp only[] at h1
   have h2:=ZlK (fun _ _ h=>h) K (max k n) (max k n+1) st' q (Nat.le_succ _) h1
   rw[show ZiM X M c K st'=some q from ZkK (Zfl X M c K st') h2] at hl
   cases hl
 | some q=>
  obtain⟨m,hm⟩:=ZiL hl
  refine ZkK (Zfl X M c K st) (n:=max n m+1) ?_
  simp only[JW,hn (max n m+1) (by omega)]
  exact ZlK (fun _ _ h=>Zow (Zeh X M (show m≤max n m+1 by omega)) (show m≤max n m+1 by omega) c _ _ h) K m (max n m) st' q (by omega) hm
theorem ZpF {c:Ze} {K:List Nat} {st st' : St} {e:Ex} (he:e≠.normal) (h:Xh X M c (JG K st)=some (e,st')) :
  ZiM X M c K st=some (e,st'):=by
 obtain⟨n,hn⟩:=Za6 X M h
 refine ZkK (Zfl X M c K st) (n:=n+1) ?_
 simp only[JW,hn (n+1) (by omega)]
 cases e with
 | normal=>exact absurd rfl he
 | exit id=>rfl
 | ret=>rfl
theorem ZA3 {f:Nat} {as:List AV} {h:List Zo} {fn:ZH} {r:AV×List Zo} (hx:X f=some (.text fn))
  (hl:as.length≤fn.nt) (hr:ZcQ h.length fn.res (Xh X M fn.body { sl:=UN 0 as,hp:=W5 0 h,nx:=h.length,m:=h.length })=some r) :
  Zh X M f as h=some r:=by
 cases hv:Xh X M fn.body { sl:=UN 0 as,hp:=W5 0 h,nx:=h.length,m:=h.length } with
 | none=>rw[hv] at hr;simp[ZcQ] at hr
 | some q=>
  rw[hv] at hr
  obtain⟨n,hn⟩:=Za6 X M hv
  refine ZkK (Zfk X M f as h) (n:=n+1) ?_
  simp only[QC,hx,Zhz,ZlI,hl,if_true,hn n (Nat.le_refl n)]
  exact hr
theorem Zas {f:Nat} {as:List AV} {h:List Zo} {p:List AV→List Zo→Option (AV×List Zo)} {r:AV×List Zo} (hx:X f=some (.prim p)) (hp:p as h=some r) :
  Zh X M f as h=some r:=
 ZkK (Zfk X M f as h) (n:=1) (by simp only[QC,hx,Zhz,hp])
end
section
variable (P:Program)
def JH (nt:Nat):Code→Option Ze
 | .skip=>some .skip
 | .region _ ops draw=>bnd (Q6 (ZnD P nt ops.toList) ops.toList) fun os=>if draw then (if ZpC ops os then some (.region ops.toList.length (some (Zed ops os)) os) else some .stuck) else some (.region ops.toList.length none os)
 | .seq a b=>bnd (JH nt a) fun a=>bnd (JH nt b) fun b=>some (.seq a b)
 | .cond c a b=>bnd (Qd c) fun c=>bnd (JH nt a) fun a=>bnd (JH nt b) fun b=>some (.cond c a b)
 | .block id c=>bnd (JH nt c) fun c=>some (.block id c)
 | .loop c=>bnd (JH nt c) fun c=>some (.loop c)
 | .exit id=>some (.exit id)
 | .ret=>some .ret
 | _=>some .stuck
def ZjH:COp→COp
 | .buildDp s _ xs=>.buildSl s xs
 | .asgDp s _ x=>.assign (some s) x
 | .appDp s b flat x y=>.append s b false flat x y
 | c=>c
def ZmQ:List CO→List CO
 | []=>[]
 | o :: r => { o with op:=ZjH o.op } :: ZmQ r
def Zw1:Option (List (Nat×Nat))→List CO→List CO
 | none,ops=>ZmQ ops
 | some _,ops=>ops
def VQ:Ze→Ze
 | .keep _ c=>VQ c
 | .seq a b=>.seq (VQ a) (VQ b)
 | .cond c a b=>.cond c (VQ a) (VQ b)
 | .block id c=>.block id (VQ c)
 | .loop c=>.loop (VQ c)
 | .region n d ops=>.region n d (Zw1 d ops)
 | .link _ _ _ c=>VQ c
 | .melt c=>VQ c
 | .skip=>.skip
 | .exit id=>.exit id
 | .ret=>.ret
 | .stuck=>.stuck
def ZmR (cf:ZH):ZH := { nt:=cf.nt,res:=cf.res,body:=VQ cf.body }
def cRes:ResultVar→Option ZqX
 | .tmp t=>some (.tmp t)
 | .cell a t=>bnd (ZgC P t) fun g=>some (.cell a g (P.cellsOf t))
def cFun (fn:Func):Option ZH:=bnd fn.body fun c=>bnd (JH P fn.ntmps c) fun b=>bnd (Q6 (cRes P) fn.results.toList) fun rs=>some { nt:=fn.ntmps,res:=rs,body:=b }
end
end Go.Abs
