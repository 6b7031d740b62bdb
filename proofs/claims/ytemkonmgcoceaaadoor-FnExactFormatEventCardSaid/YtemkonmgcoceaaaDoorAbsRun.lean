/- The abstract semantics: regions,codes,bodies,calls. Own text. -/
import Derived.Test.YtemkonmgcoceaaaDoorAbsOps
set_option linter.unusedVariables false
set_option linter.unusedSimpArgs false
namespace Go.Abs
open Go
inductive Ex where
 | normal
 | exit (id:Nat)
 | ret
def Qs (lo hi:Nat):Hp→Bool
 | []=>true
 | (k,_) :: r=>decide (lo≤k)&&decide (k<hi)&&Qs (k+1) hi r
def QJ (gone:List Nat) (sl:Sl):Sl:=match gone with
 | []=>sl
 | _=>Zca (kill gone) sl
def XM (gone:List Nat) (hp:Hp):Hp:=match gone with
 | []=>hp
 | _=>Zca (Q2 gone) hp
def Zl (sl:Sl) (dst:Option Nat) (v:AV):Sl:=match dst with
 | some t=>ins sl t v
 | none=>sl
def Zb.on (e:Zb) (dst:Option Nat) (sl:Sl) (hp:Hp):Sl×Hp:=
 (Zl (QJ e.gone sl) dst e.eff.val,e.eff.on (XM e.gone hp))
def XE (base:Nat) (dst:Option Nat) (sl:Sl) (hp:Hp) (e:Option Zb):Option (Sl×Hp):=
 bnd e fun e=>if Qs base (base+64) e.eff.adds then some (e.on dst sl hp) else none
def ZaJ (want:Bool):AV→Option Bool
 | .d (.bool b)=>some (b==want)
 | .tup []=>some false
 | _=>none
def ZM (sl:Sl):Option (Nat×Bool)→Option Bool
 | none=>some true
 | some q=>ZaJ q.2 (gs sl q.1)
inductive Zp where
 | skip
 | region (n:Nat) (draw:Option (List (Nat×Nat))) (ops:List CO)
 | seq (a b:Zp)
 | cond (c:Opd) (a b:Zp)
 | block (id:Nat) (c:Zp)
 | loop (c:Zp)
 | exit (id:Nat)
 | ret
 | keep (K:List Nat) (c:Zp)
 | stuck
 | link (id:Nat) (i:Opd) (j:Nat) (c:Zp)
 | melt (c:Zp)
inductive ZhX where
 | tmp (t:Nat)
 | cell (a:Nat) (g:Bool) (s:Nat)
structure QK where
 nt:Nat
 res:List ZhX
 body:Zp
def Zmt (x:Option Opd):List Opd:=match x with
 | some y=>[y]
 | none=>[]
def ZB:COp→List Opd
 | .move x=>[x]
 | .assign _ x=>[x]
 | .pick c a b=>[c,a,b]
 | .alloc _ _=>[]
 | .box x=>[x]
 | .build _ ps=>ps.map fun q=>q.2.2
 | .buildSl _ xs=>xs
 | .load _ _ a=>[a]
 | .store _ _ a x=>[a,x]
 | .nilCheck x=>[x]
 | .bin _ _ x y=>[x,y]
 | .un _ x=>[x]
 | .eqA _ _ x y=>[x,y]
 | .convI _ x=>[x]
 | .convS x=>[x]
 | .fn _ cs=>cs
 | .make _ _ _ l c=>[l,c]
 | .slice _ x lo hi=>x :: (Zmt lo++Zmt hi)
 | .sliceS x lo hi=>x :: (Zmt lo++Zmt hi)
 | .slice0 x hi mx=>[x,hi,mx]
 | .shift _ x=>[x]
 | .part _ _ _ x=>[x]
 | .iaS _ x i=>[x,i]
 | .iaA _ _ x i=>[x,i]
 | .ixS x i=>[x,i]
 | .ixA _ _ _ x i=>[x,i]
 | .nth _ x=>[x]
 | .len x=>[x]
 | .lenS x=>[x]
 | .append _ _ _ _ x y=>[x,y]
 | .min x y=>[x,y]
 | .max x y=>[x,y]
 | .call f as=>f :: as
 | .slice3 _ x lo hi mx=>[x,lo,hi,mx]
 | .clear _ _ x=>[x]
 | .stuck=>[]
 | .buildDp _ _ xs=>xs
 | .appDp _ _ _ x y=>[x,y]
 | .asgDp _ _ x=>[x]
def Zb0:COp→Bool
 | .store _ _ _ _=>true
 | _=>false
def isApp:COp→Bool
 | .append _ _ _ _ _ _=>true
 | _=>false
def Zg6 (c:COp):Bool:=Zb0 c || isApp c
def CO.starts (o:CO):Bool:=Zb0 o.op || o.tl
def ZI (os:List CO) (i:Nat):Bool:=match os[i]? with
 | some o=>CO.starts o
 | none=>false
def WS:Opd→List Nat
 | .t n=>[n]
 | _=>[]
def Zg7:Option (Nat×Bool)→List Nat
 | some q=>[q.1]
 | none=>[]
def looks (o:CO):List Nat:=(ZB o.op).flatMap WS++Zg7 o.guard
def Qk:Option Nat→List Nat→Bool
 | some d,l=>!l.contains d
 | none,_=>true
def Wq:Option Nat→Option Nat→Bool
 | some d,some e=>d != e
 | _,_=>true
def QV (a b:CO):Bool:=Qk a.dst (looks b)&&Wq a.dst b.dst&&Qk b.dst (looks a)
def XN:Opd→Bool
 | .v a=>(Zs a).isEmpty&&!Zh8 a
 | _=>true
def ZjL (os:List CO) (j i:Nat):Bool:=match os[j]?,os[i]? with
 | some a,some b=>QV a b
 | _,_=>false
def YH:COp→Bool
 | .load _ _ _=>false
 | .store _ _ _ _=>false
 | .slice _ _ _ _=>false
 | .slice0 _ _ _=>false
 | .iaS _ _ _=>false
 | .len _=>false
 | .append _ _ _ _ _ _=>false
 | .buildSl _ _=>false
 | .buildDp _ _ _=>false
 | .appDp _ _ _ _ _=>false
 | .asgDp _ _ _=>false
 | .call _ _=>false
 | .slice3 _ _ _ _ _=>false
 | .clear _ _ _=>false
 | _=>true
def V1:COp→Bool
 | .load _ _ _=>true
 | .slice _ _ _ _=>true
 | .slice0 _ _ _=>true
 | .iaS _ _ _=>true
 | .len _=>true
 | _=>false
def Zmu:COp→Bool
 | .clear _ _ _=>false
 | .store _ _ _ _=>false
 | .append _ _ _ _ _ _=>false
 | .buildSl _ _=>false
 | .buildDp _ _ _=>false
 | .appDp _ _ _ _ _=>false
 | .asgDp _ _ _=>false
 | .call _ _=>false
 | _=>true
def VA (os:List CO) (k:Nat):Option Nat:=match os[k]? with
 | some o=>o.dst
 | none=>none
def ZjM (os:List CO) (k:Nat):List Nat:=match os[k]? with
 | some o=>looks o
 | none=>[]
def WT (os:List CO) (k:Nat):Bool:=(List.range os.length).all fun q=>decide (q<k) || Qk (VA os q) (ZjM os k)
def XW:COp→Bool
 | .move _=>true
 | _=>false
def ZaK:COp→Bool
 | .append _ _ _ _ _ _=>true
 | .buildSl _ _=>true
 | _=>false
def WB:COp→Bool
 | .call (.f _) _=>true
 | _=>false
def Zez:COp→List Opd
 | .call _ as=>as
 | _=>[]
def Zmv:COp→Bool
 | .alloc _ _=>false
 | .box _=>false
 | .assign _ _=>false
 | .make _ _ _ _ _=>false
 | .fn _ _=>false
 | _=>true
def ZiI:COp→Bool
 | .buildSl _ _=>true
 | _=>false
def Jz:AV→Bool
 | .d _=>true
 | .nil=>true
 | .nilp=>true
 | .nili=>true
 | _=>false
def Yh:List AV→Bool
 | []=>true
 | c :: r=>Jz c&&Yh r
def ZfN:COp→Bool
 | .alloc _ cs=>Yh cs
 | _=>false
def Zg8 (c:COp):Bool:=V1 c || ZiI c || (YH c&&Zmv c) || ZfN c
def ZdP:COp→Bool
 | .alloc _ cs=>Yh cs
 | .buildSl _ _=>true
 | .load _ _ _=>true
 | .nilCheck _=>true
 | .bin _ _ _ _=>true
 | .un _ _=>true
 | .convI _ _=>true
 | .shift _ _=>true
 | .iaS _ _ _=>true
 | .slice _ _ _ _=>true
 | .len _=>true
 | .sliceS _ _ _=>true
 | .lenS _=>true
 | _=>false
def ZqF:Option Nat→Bool
 | some _=>true
 | none=>false
def ZfD (os:List CO) (k:Nat):Bool:=ZqF (VA os k)&&(List.range os.length).all fun q=>q==k || Wq (VA os q) (VA os k)
def ZdQ (os:List CO) (j i:Nat):Bool:=WT os j&&WT os i
def Zpy (os:List CO) (j i:Nat) (a b:COp):Bool:=
 Zmu b || (Zg6 b&&(YH a || (!XW a&&V1 a&&ZdQ os j i))) || (XW a&&(ZaK b || ZfD os j)) || (!XW a&&WB b&&Zg8 a&&ZdQ os j i&&ZfD os j)
def Zpz (os:List CO) (j i:Nat) (a b:COp):Bool:=(XW b&&ZfD os i) || (!XW b&&WB a&&ZdP b&&ZdQ os j i&&ZfD os i)
def ZjN (os:List CO) (j i:Nat):Bool:=match os[j]?,os[i]? with
 | some a,some b=>if ZI os j then !ZI os i&&Zpz os j i a.op b.op else !ZI os i || Zpy os j i a.op b.op
 | _,_=>false
def ZaL (os:List CO) (j i:Nat):Option (Nat×Nat):=match os[j]?,os[i]? with
 | some a,some b=>if ZI os j then (if XW b.op || WB a.op then some (i,j) else none) else
   if ZI os i&&(if Zg6 b.op then !(YH a.op) else if XW a.op then !(ZaK b.op) else WB b.op) then some (j,i) else none
 | _,_=>none
def optP:Option (Nat×Nat)→List (Nat×Nat)
 | some p=>[p]
 | none=>[]
def UW (ops:Array Oper) (os:List CO):List (Nat×Nat):=
 (List.range ops.size).flatMap fun i=>(List.range i).flatMap fun j=>if ZcU ops 6 i j then [] else optP (ZaL os j i)
def Zg9 (ops:Array Oper) (os:List CO):Bool:=
 (List.range ops.size).all (fun i=>(Yt ops i).all fun e=>decide (e<i)) &&
 (List.range ops.size).all (fun i=>(List.range i).all fun j=>(Yt ops i).contains j || ZjL os j i) &&
 (List.range ops.size).all (fun i=>(List.range i).all fun j=>ZcU ops 6 i j || ZjN os j i) &&
 os.all (fun o=>(ZB o.op).all XN)
def UX (id:Nat):AV→Bool
 | .d _=>true
 | .pim _=>true
 | .nil=>true
 | .ptr k _=>k != id
 | .prow k _ _ _=>k != id
 | .own k=>k != id
 | .ownv k _ _=>k != id
 | .nilp=>true
 | .nili=>true
 | .tup []=>true
 | _=>false
def okC:AV→Bool
 | .d _=>true
 | .pim _=>true
 | .nil=>true
 | .ptr _ _=>true
 | .prow _ _ _ _=>true
 | .own _=>true
 | .ownv _ _ _=>true
 | .nilp=>true
 | .nili=>true
 | _=>false
def ZjO:List AV→Bool
 | []=>true
 | v :: r=>okC v&&ZjO r
def okV:AV→Bool
 | .agg cs=>ZjO cs
 | .tup []=>true
 | v=>okC v
def okL (sl:Sl):List Opd→Bool
 | []=>true
 | x :: r=>okV (evO sl x)&&okL sl r
def okD (sl:Sl):Option Nat→Bool
 | some t=>okV (gs sl t)
 | none=>true
def Yi:AV→Option Nat
 | .ptr k _=>some k
 | .prow k _ _ _=>some k
 | _=>none
def QP (sl:Sl) (id:Nat):List Opd→Bool
 | []=>true
 | x :: r=>UX id (evO sl x)&&QP sl id r
def ZaM (sl:Sl) (a:COp):Option Nat→Bool
 | some id=>QP sl id (ZB a)
 | none=>false
def UY (sl:Sl) (xs:List Opd):AV→Bool
 | .ptr k _=>QP sl k xs
 | .prow _ _ _ _=>false
 | _=>true
def Zbx (sl:Sl) (xs:List Opd):List Opd→Bool
 | []=>true
 | y :: r=>UY sl xs (evO sl y)&&Zbx sl xs r
def Vh (sl:Sl) (a:COp):AV→Bool
 | .nil=>true
 | .tup []=>true
 | .own k=>QP sl k (ZB a)
 | .ownv k _ _=>QP sl k (ZB a)
 | .sub k _=>QP sl k (ZB a)
 | _=>false
def seenSrc (sl:Sl) (a:COp):AV→Bool
 | .own k=>QP sl k (ZB a)
 | v=>okV v
def Vq (sl:Sl) (d:Option Nat):COp→COp→Bool
 | .move _,_=>okD sl d
 | a,.store _ _ x _=>ZaM sl a (Yi (evO sl x))
 | a,.append _ _ _ flat x y=>Vh sl a (evO sl x)&&(flat || seenSrc sl a (evO sl y))
 | a,.call _ as=>okL sl (ZB a)&&(okD sl d&&(okL sl as&&Zbx sl (ZB a) as))
 | _,_=>false
def ZdR (os:List CO) (sl:Sl) (p:Nat×Nat):Bool:=match os[p.1]?,os[p.2]? with
 | some a,some b=>Vq sl a.dst a.op b.op
 | _,_=>false
def Vi (os:List CO) (sl:Sl):List (Nat×Nat)→Bool
 | []=>true
 | p :: r=>ZdR os sl p&&Vi os sl r
section
variable (C:Orc) (M:Zj)
noncomputable def Zad (nx:Nat):Nat→List CO→Sl→Hp→Option (Sl×Hp)
 | _,[],sl,hp=>some (sl,hp)
 | i,o :: rest,sl,hp=>bnd (ZM sl o.guard) fun b=>
   if b then bnd (XE (nx+64*i) o.dst sl hp (vop C M sl hp (nx+64*i) o.op)) fun r=>Zad nx (i+1) rest r.1 r.2
   else Zad nx (i+1) rest (Zl sl o.dst (.tup [])) hp
def ZaN (c:Zb):List Nat→Hp→List Nat→List Nat→Option Zb
 | [],[],[],[]=>some c
 | _,_,_,_=>none
def UZ (e:Option Zb):Option Zb:=bnd e fun c=>ZaN c c.gone c.eff.sets c.eff.dels c.eff.frz
noncomputable def Yw (nx i:Nat) (tail:Bool) (o:COp) (sl:Sl) (hp:Hp):Option Zb:=
 if tail then vop C M sl hp (nx+64*i) o else UZ (vop C M sl hp (nx+64*i) o)
noncomputable def Va (nx:Nat):Nat→Bool→List CO→Sl→Hp→Option (Sl×Hp)
 | _,_,[],sl,hp=>some (sl,hp)
 | i,t,o :: rest,sl,hp=>bnd (ZM sl o.guard) fun b=>
   if b then bnd (XE (nx+64*i) o.dst sl hp (Yw C M nx i (CO.starts o) o.op sl hp)) fun r=>Va nx (i+1) t rest r.1 r.2
   else Va nx (i+1) t rest (Zl sl o.dst (.tup [])) hp
def ZcX {α:Type}:List (Nat×α)→List Nat
 | []=>[]
 | (k,_) :: r=>k :: ZcX r
def only {α:Type} (K:List Nat):List (Nat×α)→List (Nat×α)
 | []=>[]
 | (k,v) :: r=>if K.contains k then (k,v) :: only K r else only K r
def Yj:Nat→List Zi→Hp
 | _,[]=>[]
 | k,o :: r=>Yj (k+1) r++[(k,o)]
def Zha:Sl→List Nat
 | []=>[]
 | (_,v) :: r=>Zs v++Zha r
def V2:Option Zi→Bool
 | some _=>true
 | none=>false
def JA (hp:Hp) (ids:List Nat) (i:Nat):Bool:=ids.contains i&&V2 (lkp hp i)
def Zby (hp:Hp) (ids:List Nat):List Nat→List Nat
 | []=>[]
 | i :: r=>if JA hp ids i then Zby hp ids r else i :: Zby hp ids r
def Zae (hp:Hp) (ids:List Nat) (v:AV):AV:=ren (Ys ids) (kill (Zby hp ids (Zs v)) v)
def Zbz (hp:Hp) (ids:List Nat) (o:Zi):Zi:=Zfz (Ys ids) (Q2 (Zby hp ids (WJ o)) o)
def Zmw:Option Zi→List Nat
 | some o=>WJ o
 | none=>[]
def Yv (hp:Hp):List Nat→List Nat
 | []=>[]
 | id :: r=>Zmw (lkp hp id)++Yv hp r
def Y0 (K:List Nat) (st:St):St:=
 let sl:=only K st.sl
 let ids:=Qj st.hp (QI st.hp) (Zha sl++Yv st.hp (List.range st.m)) (List.range st.m)
 { sl:=Zca (Zae st.hp ids) sl,hp:=Yj 0 ((UO st.hp ids).map (Zbz st.hp ids)),nx:=ids.length,m:=st.m }
def Vb (f:St→Option (Ex×St)) (K:List Nat):Nat→St→Option (Ex×St)
 | 0,_=>none
 | n+1,st=>match f (Y0 K st) with
  | some (.normal,st')=>Vb f K n st'
  | r=>r
def andThen (r:Option (Ex×St)) (k:St→Option (Ex×St)):Option (Ex×St):=match r with
 | some (.normal,st)=>k st
 | r=>r
def ZbA (v:AV) (a b:Option (Ex×St)):Option (Ex×St):=match v with
 | .d (.bool t)=>if t then a else b
 | _=>none
def Za3 (id:Nat) (r:Option (Ex×St)):Option (Ex×St):=match r with
 | some (.exit j,st)=>if j=id then some (.normal,st) else some (.exit j,st)
 | r=>r
def Zhb (ops:List CO) (ps:List (Nat×Nat)) (r:Option (Sl×Hp)):Option (Sl×Hp):=bnd r fun r=>if Vi ops r.1 ps then some r else none
def ZdS (m nx:Nat) (r:Option (Sl×Hp)):Option (Ex×St):=bnd r fun r=>some (.normal,{ sl:=r.1,hp:=r.2,nx:=nx,m:=m })
def Zfn (K:List Nat) (r:Option (Ex×St)):Option (Ex×St):=match r with
 | some q=>some (q.1,{ q.2 with sl:=only K q.2.sl })
 | none=>none
def Znk (nx n j:Nat):Option Zi→Option Zi
 | some (.deep s k xs _)=>bnd (ZdH xs n j) fun _=>some (.deep s k xs (some (nx,n,j)))
 | _=>none
def JB (id:Nat) (i:Opd) (j:Nat) (st:St):Option St:=bnd (idx (evO st.sl i)) fun n=>if 0≤n then bnd (Znk st.nx n.toNat j (lkp st.hp id)) fun o=>some { st with hp:=ins st.hp id o,nx:=st.nx+64 } else none
def ZjP (st:St):St := { st with hp:=Zca US st.hp }
noncomputable def Zw (N:Nat):Zp→St→Option (Ex×St)
 | .skip,st=>some (.normal,st)
 | .region n none ops,st=>ZdS st.m (st.nx+64*n) (Zad C M st.nx 0 ops st.sl st.hp)
 | .region n (some ps) ops,st=>ZdS st.m (st.nx+64*n) (Zhb ops ps (Va C M st.nx 0 false ops st.sl st.hp))
 | .seq a b,st=>andThen (Zw N a st) (Zw N b)
 | .cond c a b,st=>ZbA (evO st.sl c) (Zw N a st) (Zw N b st)
 | .block id c,st=>Za3 id (Zw N c st)
 | .loop c,st=>Vb (Zw N c) (ZcX st.sl) N st
 | .exit id,st=>some (.exit id,st)
 | .ret,st=>some (.ret,st)
 | .keep K c,st=>Zfn K (Zw N c st)
 | .stuck,_=>none
 | .link id i j c,st=>bnd (JB id i j st) (Zw N c)
 | .melt c,st=>Zw N c (ZjP st)
def ZfE (st:St):ZhX→Option AV
 | .tmp t=>some (gs st.sl t)
 | .cell a g s=>Y9 st.hp g s (gs st.sl a)
def XX (m:Nat) (hp:Hp) (v:AV):AV×List Zi:=
 let ids:=Qj hp (QI hp) (Zs v++Yv hp (List.range m)) (List.range m)
 (Zae hp ids v,(UO hp ids).map (Zbz hp ids))
def Znl:AV→Bool
 | .tup _=>true
 | _=>false
def ZcY:List AV→Bool
 | []=>false
 | v :: r=>Znl v || ZcY r
def W7:List AV→AV
 | [v]=>v
 | vs=>if ZcY vs then .junk else .tup vs
def YI:Nat→List AV→Sl
 | _,[]=>[]
 | k,v :: r=>YI (k+1) r++[(k,v)]
def WU (m:Nat) (rs:List ZhX) (r:Option (Ex×St)):Option (AV×List Zi):=match r with
 | some (.normal,st)=>bnd (Qh (ZfE st) rs) fun vs=>some (XX m st.hp (W7 vs))
 | some (.ret,st)=>bnd (Qh (ZfE st) rs) fun vs=>some (XX m st.hp (W7 vs))
 | _=>none
noncomputable def ZdT (N:Nat) (fn:QK) (as:List AV) (h:List Zi):Option (AV×List Zi):=
 if as.length≤fn.nt then WU h.length fn.res (Zw C M N fn.body { sl:=YI 0 as,hp:=Yj 0 h,nx:=h.length,m:=h.length }) else none
end
inductive Fn where
 | text (f:QK)
 | prim (p:List AV→List Zi→Option (AV×List Zi))
abbrev Fns:=Nat→Option Fn
noncomputable def ZaO (C:Orc) (M:Zj) (N:Nat) (as:List AV) (h:List Zi):Option Fn→Option (AV×List Zi)
 | some (.text f)=>ZdT C M N f as h
 | some (.prim p)=>p as h
 | none=>none
noncomputable def Z0 (X:Fns) (M:Zj):Nat→Orc
 | 0,_,_,_=>none
 | n+1,f,as,h=>ZaO (Z0 X M n) M n as h (X f)
open Classical in
noncomputable def lim {α:Type} (x:Nat→Option α):Option α:=if h:∃ r,∃ n,x n=some r then some h.choose else none
def Zoo {α:Type} (x:Nat→Option α):Prop:=∀ n r,x n=some r→x (n+1)=some r
theorem Zoo.le {α:Type} {x:Nat→Option α} (h:Zoo x) {n m:Nat} {r:α} (hr:x n=some r) (hnm:n≤m):x m=some r:=by
 induction hnm with
 | refl=>exact hr
 | step _ ih=>exact h _ _ ih
theorem ZcZ {α:Type} {x:Nat→Option α} (h:Zoo x) {n:Nat} {r:α} (hr:x n=some r):lim x=some r:=by
 have he:∃ r,∃ n,x n=some r:=⟨r,n,hr⟩
 unfold lim
 rw[dif_pos he]
 obtain⟨m,hm⟩:=he.choose_spec
 have h1:=h.le hm (Nat.le_max_left m n)
 have h2:=h.le hr (Nat.le_max_right m n)
 rw[h1] at h2
 exact h2
theorem ZbB {α:Type} {x:Nat→Option α} {r:α} (hr:lim x=some r):∃ n,x n=some r:=by
 unfold lim at hr
 split at hr
 ·rename_i h
  obtain⟨n,hn⟩:=h.choose_spec
  exact⟨n,by rw[hn];exact hr⟩
 ·cases hr
def Orc.le (C C' : Orc):Prop:=∀ f as h r,C f as h=some r→C' f as h=some r
section
variable {M:Zj} {C C' : Orc}
theorem WV {α β:Type} {x x' : Option α} {f f' : α→Option β} {r:β} (hx:∀ a,x=some a→x'=some a) (hf:∀ a,f a=some r→f' a=some r) (h:bnd x f=some r):bnd x' f'=some r:=by
 obtain⟨a,h1,h2⟩:=Za h
 rw[hx a h1];exact hf a h2
theorem ZpA (h:C.le C') {m:Nat→Bool} {hp:Hp} {base f:Nat} {avs:List AV} {r:Zb}
  (hr:W4 C m hp base f avs=some r):W4 C' m hp base f avs=some r:=by
 unfold W4 at hr ⊢
 refine WV (fun _ h=>h) (fun as hr=>?_) hr
 unfold Jd at hr ⊢
 by_cases hc:(as.flatMap Zs).all (Qj hp (QI hp) (as.flatMap Zs) []).contains∧¬(XJ avs as).any (Qj hp (QI hp) (as.flatMap Zs) []).contains∧Ug hp (as.flatMap WM) (Qj hp (QI hp) (as.flatMap Zs) [])=true
 ·rw[if_pos hc] at hr ⊢
  exact WV (fun q hq=>h _ _ _ _ hq) (fun _ h=>h) hr
 ·rw[if_neg hc] at hr;cases hr
theorem ZjQ (h:C.le C') {sl:Sl} {hp:Hp} {base:Nat} {o:COp} {r:Zb} (hr:vop C M sl hp base o=some r) :
  vop C' M sl hp base o=some r:=by
 cases o with
 | call f as=>
  simp only[vop] at hr ⊢
  cases hg:evO sl f<;>simp only[hg,UT] at hr ⊢ <;> first | exact ZpA h hr | exact hr
 | _=>exact hr
theorem ZjR (h:C.le C') (nx:Nat):∀ (l:List CO) (i:Nat) (sl:Sl) (hp:Hp) (r:Sl×Hp),
  Zad C M nx i l sl hp=some r→Zad C' M nx i l sl hp=some r:=by
 intro l
 induction l with
 | nil=>intro i sl hp r hr;exact hr
 | cons o rest ih=>
  intro i sl hp r hr
  simp only[Zad] at hr ⊢
  refine WV (fun _ h=>h) (fun b hr=>?_) hr
  cases b
  ·simp only[Bool.false_eq_true,if_false] at hr ⊢
   exact ih _ _ _ _ hr
  ·simp only[if_true] at hr ⊢
   refine WV (fun q hq=>?_) (fun q hq=>ih _ _ _ _ hq) hr
   unfold XE at hq ⊢
   exact WV (fun e he=>ZjQ h he) (fun _ h=>h) hq
theorem Znm (h:C.le C') {nx i:Nat} {t:Bool} {o:COp} {sl:Sl} {hp:Hp} {e:Zb} (he:Yw C M nx i t o sl hp=some e) :
  Yw C' M nx i t o sl hp=some e:=by
 unfold Yw at he ⊢
 cases t
 ·simp only[Bool.false_eq_true,if_false,UZ] at he ⊢
  exact WV (fun _ hv=>ZjQ h hv) (fun _ h=>h) he
 ·simp only[if_true] at he ⊢
  exact ZjQ h he
theorem ZdU (h:C.le C') (nx:Nat):∀ (l:List CO) (i:Nat) (t:Bool) (sl:Sl) (hp:Hp) (r:Sl×Hp),
  Va C M nx i t l sl hp=some r→Va C' M nx i t l sl hp=some r:=by
 intro l
 induction l with
 | nil=>intro i t sl hp r hr;exact hr
 | cons o rest ih=>
  intro i t sl hp r hr
  simp only[Va] at hr ⊢
  refine WV (fun _ h=>h) (fun b hr=>?_) hr
  cases b
  ·simp only[Bool.false_eq_true,if_false] at hr ⊢
   exact ih _ _ _ _ _ hr
  ·simp only[if_true] at hr ⊢
   refine WV (fun q hq=>?_) (fun q hq=>ih _ _ _ _ _ hq) hr
   unfold XE at hq ⊢
   exact WV (fun e he=>Znm h he) (fun _ h=>h) hq
theorem ZdV {f g:St→Option (Ex×St)} (h:∀ st r,f st=some r→g st=some r) (K:List Nat) :
  ∀ (n m:Nat) (st:St) (r:Ex×St),n≤m→Vb f K n st=some r→Vb g K m st=some r:=by
 intro n
 induction n with
 | zero=>intro m st r _ hr;simp[Vb] at hr
 | succ n ih=>
  intro m st r hm hr
  cases m with
  | zero=>omega
  | succ m=>
   simp only[Vb] at hr ⊢
   cases hf:f (Y0 K st) with
   | none=>simp[hf] at hr
   | some q=>
    rw[hf] at hr
    rw[h _ _ hf]
    obtain⟨e,st'⟩:=q
    cases e with
    | normal=>exact ih m st' r (by omega) hr
    | exit id=>exact hr
    | ret=>exact hr
theorem ZfO (h:C.le C') {N N' : Nat} (hN:N≤N'):∀ (c:Zp) (st:St) (r:Ex×St),
  Zw C M N c st=some r→Zw C' M N' c st=some r:=by
 intro c
 induction c with
 | skip=>intro st r hr;simpa [Zw] using hr
 | region n draw ops=>
  intro st r hr
  cases draw
  ·simp only[Zw,ZdS] at hr ⊢
   exact WV (fun q hq=>ZjR h _ _ _ _ _ _ hq) (fun _ h=>h) hr
  ·simp only[Zw,ZdS,Zhb] at hr ⊢
   exact WV (fun q hq=>WV (fun q hq=>ZdU h _ _ _ _ _ _ _ hq) (fun _ h=>h) hq) (fun _ h=>h) hr
 | seq a b iha ihb=>
  intro st r hr
  simp only[Zw] at hr ⊢
  cases ha:Zw C M N a st with
  | none=>simp[ha,andThen] at hr
  | some q=>
   rw[ha] at hr
   rw[iha _ _ ha]
   obtain⟨e,st'⟩:=q
   cases e with
   | normal=>exact ihb _ _ hr
   | exit id=>exact hr
   | ret=>exact hr
 | cond c a b iha ihb=>
  intro st r hr
  simp only[Zw,ZbA] at hr ⊢
  split at hr
  ·rename_i t ht
   cases t
   ·simp only[Bool.false_eq_true,if_false] at hr ⊢;exact ihb _ _ hr
   ·simp only[if_true] at hr ⊢;exact iha _ _ hr
  ·cases hr
 | block id c ih=>
  intro st r hr
  simp only[Zw] at hr ⊢
  cases hc:Zw C M N c st with
  | none=>simp[hc,Za3] at hr
  | some q=>rw[hc] at hr;rw[ih _ _ hc];exact hr
 | loop c ih=>
  intro st r hr
  simp only[Zw] at hr ⊢
  exact ZdV ih _ _ _ _ _ hN hr
 | exit id=>intro st r hr;simpa [Zw] using hr
 | ret=>intro st r hr;simpa [Zw] using hr
 | keep K c ih=>
  intro st r hr
  simp only[Zw] at hr ⊢
  cases hc:Zw C M N c st with
  | none=>simp[hc,Zfn] at hr
  | some q=>rw[hc] at hr;rw[ih _ _ hc];exact hr
 | stuck=>intro st r hr;simp[Zw] at hr
 | link id i j c ih=>
  intro st r hr
  simp only[Zw] at hr ⊢
  obtain⟨st',h1,h2⟩:=Za hr
  rw[h1,Zd]
  exact ih st' r h2
 | melt c ih=>
  intro st r hr
  simp only[Zw] at hr ⊢
  exact ih _ r hr
theorem ZpB (h:C.le C') {N N' : Nat} (hN:N≤N') {f:QK} {as:List AV} {hh:List Zi} {r:AV×List Zi}
  (hr:ZdT C M N f as hh=some r):ZdT C' M N' f as hh=some r:=by
 unfold ZdT at hr ⊢
 by_cases hl:as.length≤f.nt
 ·rw[if_pos hl] at hr ⊢
  cases hv:Zw C M N f.body { sl:=YI 0 as,hp:=Yj 0 hh,nx:=hh.length,m:=hh.length } with
  | none=>simp[hv,WU] at hr
  | some q=>rw[hv] at hr;rw[ZfO h hN _ _ _ hv];exact hr
 ·rw[if_neg hl] at hr;cases hr
end
section
variable (X:Fns) (M:Zj)
theorem ZeA:∀ n,(Z0 X M n).le (Z0 X M (n+1)):=by
 intro n
 induction n with
 | zero=>intro f as h r hr;simp[Z0] at hr
 | succ n ih=>
  intro f as h r hr
  rw[Z0] at hr ⊢
  cases hf:X f with
  | none=>rw[hf] at hr;cases hr
  | some g=>
   rw[hf] at hr
   cases g with
   | text g=>exact ZpB ih (Nat.le_succ n) hr
   | prim p=>exact hr
noncomputable def Zv (f:Nat) (as:List AV) (h:List Zi):Option (AV×List Zi):=lim fun n=>Z0 X M n f as h
noncomputable def Qm (c:Zp) (st:St):Option (Ex×St):=lim fun n=>Zw (Z0 X M n) M n c st
theorem Jh (f:Nat) (as:List AV) (h:List Zi):Zoo fun n=>Z0 X M n f as h:=fun n r hr=>ZeA X M n f as h r hr
theorem ZaP (n:Nat):(Z0 X M n).le (Zv X M):=fun f as h _ hr=>ZcZ (Jh X M f as h) hr
theorem Zc0 (c:Zp) (st:St):Zoo fun n=>Zw (Z0 X M n) M n c st:=fun n r hr=>ZfO (ZeA X M n) (Nat.le_succ n) c st r hr
theorem U0 {n m:Nat} (h:n≤m):(Z0 X M n).le (Z0 X M m):=fun f as hh _ hr=>(Jh X M f as hh).le hr h
theorem Zla {m:Nat→Bool} {hp:Hp} {base f:Nat} {avs:List AV} {r:Zb}
  (hr:W4 (Zv X M) m hp base f avs=some r):∃ n,W4 (Z0 X M n) m hp base f avs=some r:=by
 unfold W4 at hr ⊢
 obtain⟨as,has,hr⟩:=Za hr
 simp only[has,Zd]
 unfold Jd at hr ⊢
 by_cases hc:(as.flatMap Zs).all (Qj hp (QI hp) (as.flatMap Zs) []).contains∧¬(XJ avs as).any (Qj hp (QI hp) (as.flatMap Zs) []).contains∧Ug hp (as.flatMap WM) (Qj hp (QI hp) (as.flatMap Zs) [])=true
 ·rw[if_pos hc] at hr
  obtain⟨q,hq,hr⟩:=Za hr
  obtain⟨n,hn⟩:=ZbB hq
  refine⟨n,?_⟩
  rw[if_pos hc,hn]
  exact hr
 ·rw[if_neg hc] at hr;cases hr
theorem ZeB {sl:Sl} {hp:Hp} {base:Nat} {o:COp} {r:Zb} (hr:vop (Zv X M) M sl hp base o=some r) :
  ∃ n,vop (Z0 X M n) M sl hp base o=some r:=by
 cases o with
 | call f as=>
  simp only[vop] at hr ⊢
  cases hg:evO sl f<;>simp only[hg,UT] at hr ⊢ <;> first | exact Zla X M hr | exact⟨0,hr⟩
 | _=>exact⟨0,hr⟩
theorem Zmx (nx:Nat):∀ (l:List CO) (i:Nat) (sl:Sl) (hp:Hp) (r:Sl×Hp),
  Zad (Zv X M) M nx i l sl hp=some r→∃ n,Zad (Z0 X M n) M nx i l sl hp=some r:=by
 intro l
 induction l with
 | nil=>intro i sl hp r hr;exact⟨0,hr⟩
 | cons o rest ih=>
  intro i sl hp r hr
  simp only[Zad] at hr ⊢
  obtain⟨b,hb,hr⟩:=Za hr
  simp only[hb,Zd]
  cases b
  ·simp only[Bool.false_eq_true,if_false] at hr ⊢
   exact ih _ _ _ _ hr
  ·simp only[if_true] at hr ⊢
   obtain⟨q,hq,hr⟩:=Za hr
   unfold XE at hq
   obtain⟨e,he,hq⟩:=Za hq
   obtain⟨n1,h1⟩:=ZeB X M he
   obtain⟨n2,h2⟩:=ih _ _ _ _ hr
   refine⟨max n1 n2,?_⟩
   unfold XE
   rw[ZjQ (U0 X M (Nat.le_max_left n1 n2)) h1,Zd,hq,Zd]
   exact ZjR (U0 X M (Nat.le_max_right n1 n2)) _ _ _ _ _ _ h2
theorem Zmy {nx i:Nat} {t:Bool} {o:COp} {sl:Sl} {hp:Hp} {e:Zb} (he:Yw (Zv X M) M nx i t o sl hp=some e) :
  ∃ n,Yw (Z0 X M n) M nx i t o sl hp=some e:=by
 unfold Yw at he ⊢
 cases t
 ·simp only[Bool.false_eq_true,if_false,UZ] at he ⊢
  obtain⟨e',he',h2⟩:=Za he
  obtain⟨n,hn⟩:=ZeB X M he'
  exact⟨n,by rw[hn];exact h2⟩
 ·simp only[if_true] at he ⊢
  exact ZeB X M he
theorem Zlb (nx:Nat):∀ (l:List CO) (i:Nat) (t:Bool) (sl:Sl) (hp:Hp) (r:Sl×Hp),
  Va (Zv X M) M nx i t l sl hp=some r→∃ n,Va (Z0 X M n) M nx i t l sl hp=some r:=by
 intro l
 induction l with
 | nil=>intro i t sl hp r hr;exact⟨0,hr⟩
 | cons o rest ih=>
  intro i t sl hp r hr
  simp only[Va] at hr ⊢
  obtain⟨b,hb,hr⟩:=Za hr
  simp only[hb,Zd]
  cases b
  ·simp only[Bool.false_eq_true,if_false] at hr ⊢
   exact ih _ _ _ _ _ hr
  ·simp only[if_true] at hr ⊢
   obtain⟨q,hq,hr⟩:=Za hr
   unfold XE at hq
   obtain⟨e,he,hq⟩:=Za hq
   obtain⟨n1,h1⟩:=Zmy X M he
   obtain⟨n2,h2⟩:=ih _ _ _ _ _ hr
   refine⟨max n1 n2,?_⟩
   unfold XE
   rw[Znm (U0 X M (Nat.le_max_left n1 n2)) h1,Zd,hq,Zd]
   exact ZdU (U0 X M (Nat.le_max_right n1 n2)) _ _ _ _ _ _ _ h2
theorem QQ {c:Zp} {st:St} {n:Nat} {r:Ex×St} (h:Zw (Z0 X M n) M n c st=some r):Qm X M c st=some r:=
 ZcZ (Zc0 X M c st) h
theorem XY {α:Type} {x:Nat→Option α} (h:∀ n,x n=none):lim x=none:=by
 cases hx:lim x with
 | none=>rfl
 | some r=>obtain⟨n,hn⟩:=ZbB hx;rw[h n] at hn;cases hn
theorem Zmz (st:St):Qm X M .skip st=some (.normal,st):=QQ X M (n:=0) (by simp[Zw])
theorem ZmA (id:Nat) (st:St):Qm X M (.exit id) st=some (.exit id,st):=QQ X M (n:=0) (by simp[Zw])
theorem Zop (st:St):Qm X M .ret st=some (.ret,st):=QQ X M (n:=0) (by simp[Zw])
theorem ZjS (n:Nat) (ops:List CO) (st:St) :
  Qm X M (.region n none ops) st=ZdS st.m (st.nx+64*n) (Zad (Zv X M) M st.nx 0 ops st.sl st.hp):=by
 cases h:Zad (Zv X M) M st.nx 0 ops st.sl st.hp with
 | some r=>
  obtain⟨k,hk⟩:=Zmx X M _ _ _ _ _ _ h
  exact QQ X M (n:=k) (by simp only[Zw,hk,ZdS,Zd])
 | none=>
  refine XY fun k=>?_
  simp only[Zw]
  cases hn:Zad (Z0 X M k) M st.nx 0 ops st.sl st.hp with
  | none=>rfl
  | some r=>rw[ZjR (ZaP X M k) _ _ _ _ _ _ hn] at h;cases h
theorem ZmB (n:Nat) (ps:List (Nat×Nat)) (ops:List CO) (st:St) :
  Qm X M (.region n (some ps) ops) st=ZdS st.m (st.nx+64*n) (Zhb ops ps (Va (Zv X M) M st.nx 0 false ops st.sl st.hp)):=by
 cases h:Va (Zv X M) M st.nx 0 false ops st.sl st.hp with
 | some r=>
  obtain⟨k,hk⟩:=Zlb X M _ _ _ _ _ _ _ h
  cases hs:Zhb ops ps (some r) with
  | none=>
   refine XY fun k'=>?_
   simp only[Zw]
   cases hn:Va (Z0 X M k') M st.nx 0 false ops st.sl st.hp with
   | none=>rfl
   | some r' =>
    have:=ZdU (ZaP X M k') _ _ _ _ _ _ _ hn
    rw[h] at this
    cases this
    rw[hs];rfl
  | some r'=>exact QQ X M (n:=k) (by simp only[Zw,hk,hs];rfl)
 | none=>
  refine XY fun k=>?_
  simp only[Zw]
  cases hn:Va (Z0 X M k) M st.nx 0 false ops st.sl st.hp with
  | none=>rfl
  | some r=>rw[ZdU (ZaP X M k) _ _ _ _ _ _ _ hn] at h;cases h
theorem V3 {c:Zp} {st:St} {r:Ex×St} (h:Qm X M c st=some r):∃ n,∀ m,n≤m→Zw (Z0 X M m) M m c st=some r:=by
 obtain⟨n,hn⟩:=ZbB h
 exact⟨n,fun m hm=>(Zc0 X M c st).le hn hm⟩
theorem Zoq (a b:Zp) (st:St):Qm X M (.seq a b) st=andThen (Qm X M a st) (Qm X M b):=by
 cases ha:Qm X M a st with
 | none=>
  refine XY fun n=>?_
  cases h:Zw (Z0 X M n) M n a st with
  | none=>simp[Zw,h,andThen]
  | some q=>rw[QQ X M h] at ha;cases ha
 | some q=>
  obtain⟨e,st'⟩:=q
  obtain⟨n,hn⟩:=V3 X M ha
  cases e with
  | normal=>
   simp only[andThen]
   cases hb:Qm X M b st' with
   | none=>
    refine XY fun k=>?_
    cases h:Zw (Z0 X M k) M k (.seq a b) st with
    | none=>rfl
    | some q=>
     have h1:=(Zc0 X M (.seq a b) st).le h (Nat.le_max_left k n)
     simp only[Zw,hn _ (Nat.le_max_right k n),andThen] at h1
     rw[QQ X M h1] at hb
     cases hb
   | some q=>
    obtain⟨m,hm⟩:=V3 X M hb
    refine QQ X M (n:=max n m) ?_
    simp only[Zw,hn _ (Nat.le_max_left n m),andThen,hm _ (Nat.le_max_right n m)]
  | exit id=>exact QQ X M (n:=n) (by simp only[Zw,hn _ (Nat.le_refl n),andThen])
  | ret=>exact QQ X M (n:=n) (by simp only[Zw,hn _ (Nat.le_refl n),andThen])
theorem ZmC (c:Opd) (a b:Zp) (st:St) :
  Qm X M (.cond c a b) st=ZbA (evO st.sl c) (Qm X M a st) (Qm X M b st):=by
 unfold ZbA
 split
 ·rename_i t h
  cases t
  ·simp only[Bool.false_eq_true,if_false,Qm,Zw,h,ZbA]
  ·simp only[if_true,Qm,Zw,h,ZbA]
 ·rename_i h
  refine XY fun n=>?_
  simp only[Zw,ZbA]
theorem Zlc (id:Nat) (c:Zp) (st:St):Qm X M (.block id c) st=Za3 id (Qm X M c st):=by
 cases hc:Qm X M c st with
 | none=>
  refine XY fun n=>?_
  cases h:Zw (Z0 X M n) M n c st with
  | none=>simp[Zw,h,Za3]
  | some q=>rw[QQ X M h] at hc;cases hc
 | some q=>
  obtain⟨n,hn⟩:=V3 X M hc
  cases hb:Za3 id (some q) with
  | none=>
   obtain⟨e,st'⟩:=q
   cases e<;>simp[Za3] at hb
   split at hb<;>cases hb
  | some r=>exact QQ X M (n:=n) (by simp only[Zw,hn _ (Nat.le_refl n),hb])
theorem ZmD (K:List Nat) (c:Zp) (st:St):Qm X M (.keep K c) st=Zfn K (Qm X M c st):=by
 cases hc:Qm X M c st with
 | none=>
  refine XY fun n=>?_
  cases h:Zw (Z0 X M n) M n c st with
  | none=>simp[Zw,h,Zfn]
  | some q=>rw[QQ X M h] at hc;cases hc
 | some q=>
  obtain⟨n,hn⟩:=V3 X M hc
  exact QQ X M (n:=n) (by simp only[Zw,hn _ (Nat.le_refl n),Zfn])
theorem ZmE (id:Nat) (i:Opd) (j:Nat) (c:Zp) (st:St):Qm X M (.link id i j c) st=bnd (JB id i j st) (Qm X M c):=by
 cases hl:JB id i j st with
 | none=>
  refine XY fun n=>?_
  simp only[Zw,hl];rfl
 | some st' =>
  rw[Zd]
  cases hc:Qm X M c st' with
  | none=>
   refine XY fun n=>?_
   cases h:Zw (Z0 X M n) M n c st' with
   | none=>simp only[Zw,hl,Zd,h]
   | some q=>rw[QQ X M h] at hc;cases hc
  | some q=>
   obtain⟨n,hn⟩:=V3 X M hc
   exact QQ X M (n:=n) (by simp only[Zw,hl,Zd,hn _ (Nat.le_refl n)])
theorem ZmF (c:Zp) (st:St):Qm X M (.melt c) st=Qm X M c (ZjP st):=by
 cases hc:Qm X M c (ZjP st) with
 | none=>
  refine XY fun n=>?_
  cases h:Zw (Z0 X M n) M n c (ZjP st) with
  | none=>simp only[Zw,h]
  | some q=>rw[QQ X M h] at hc;cases hc
 | some q=>
  obtain⟨n,hn⟩:=V3 X M hc
  exact QQ X M (n:=n) (by simp only[Zw,hn _ (Nat.le_refl n)])
noncomputable def ZbC (c:Zp) (K:List Nat) (st:St):Option (Ex×St):=lim fun n=>Vb (Zw (Z0 X M n) M n c) K n st
theorem Ji (c:Zp) (K:List Nat) (st:St):Zoo fun n=>Vb (Zw (Z0 X M n) M n c) K n st:=fun n r hr=>
 ZdV (fun _ _ h=>ZfO (ZeA X M n) (Nat.le_succ n) c _ _ h) K n (n+1) st r (Nat.le_succ n) hr
theorem ZmG (c:Zp) (st:St):Qm X M (.loop c) st=ZbC X M c (ZcX st.sl) st:=by
 simp only[Qm,ZbC,Zw]
theorem Zld {c:Zp} {K:List Nat} {st st' : St} (h:Qm X M c (Y0 K st)=some (.normal,st')) :
  ZbC X M c K st=ZbC X M c K st':=by
 obtain⟨n,hn⟩:=V3 X M h
 cases hl:ZbC X M c K st' with
 | none=>
  refine XY fun k=>?_
  cases hk:Vb (Zw (Z0 X M k) M k c) K k st with
  | none=>rfl
  | some q=>
   have h1:=(Ji X M c K st).le hk (show k≤max k n+1 by omega)
   simp only[Vb] at h1
   rw[hn (max k n+1) (by omega)] at h1
   simp only[] at h1
   have h2:=ZdV (fun _ _ h=>h) K (max k n) (max k n+1) st' q (Nat.le_succ _) h1
   rw[show ZbC X M c K st'=some q from ZcZ (Ji X M c K st') h2] at hl
   cases hl
 | some q=>
  obtain⟨m,hm⟩:=ZbB hl
  refine ZcZ (Ji X M c K st) (n:=max n m+1) ?_
  simp only[Vb,hn (max n m+1) (by omega)]
  exact ZdV (fun _ _ h=>ZfO (U0 X M (show m≤max n m+1 by omega)) (show m≤max n m+1 by omega) c _ _ h) K m (max n m) st' q (by omega) hm
theorem Zhc {c:Zp} {K:List Nat} {st st' : St} {e:Ex} (he:e≠.normal) (h:Qm X M c (Y0 K st)=some (e,st')) :
  ZbC X M c K st=some (e,st'):=by
 obtain⟨n,hn⟩:=V3 X M h
 refine ZcZ (Ji X M c K st) (n:=n+1) ?_
 simp only[Vb,hn (n+1) (by omega)]
 cases e with
 | normal=>exact absurd rfl he
 | exit id=>rfl
 | ret=>rfl
theorem ZpC {f:Nat} {as:List AV} {h:List Zi} {fn:QK} {r:AV×List Zi} (hx:X f=some (.text fn))
  (hl:as.length≤fn.nt) (hr:WU h.length fn.res (Qm X M fn.body { sl:=YI 0 as,hp:=Yj 0 h,nx:=h.length,m:=h.length })=some r) :
  Zv X M f as h=some r:=by
 cases hv:Qm X M fn.body { sl:=YI 0 as,hp:=Yj 0 h,nx:=h.length,m:=h.length } with
 | none=>rw[hv] at hr;simp[WU] at hr
 | some q=>
  rw[hv] at hr
  obtain⟨n,hn⟩:=V3 X M hv
  refine ZcZ (Jh X M f as h) (n:=n+1) ?_
  simp only[Z0,hx,ZaO,ZdT,hl,if_true,hn n (Nat.le_refl n)]
  exact hr
theorem U1 {f:Nat} {as:List AV} {h:List Zi} {p:List AV→List Zi→Option (AV×List Zi)} {r:AV×List Zi} (hx:X f=some (.prim p)) (hp:p as h=some r) :
  Zv X M f as h=some r:=
 ZcZ (Jh X M f as h) (n:=1) (by simp only[Z0,hx,ZaO,hp])
end
section
variable (P:Program)
def Y1 (nt:Nat):Code→Option Zp
 | .skip=>some .skip
 | .region _ ops draw=>bnd (Qh (Zfk P nt ops.toList) ops.toList) fun os=>if draw then (if Zg9 ops os then some (.region ops.toList.length (some (UW ops os)) os) else some .stuck) else some (.region ops.toList.length none os)
 | .seq a b=>bnd (Y1 nt a) fun a=>bnd (Y1 nt b) fun b=>some (.seq a b)
 | .cond c a b=>bnd (ZL c) fun c=>bnd (Y1 nt a) fun a=>bnd (Y1 nt b) fun b=>some (.cond c a b)
 | .block id c=>bnd (Y1 nt c) fun c=>some (.block id c)
 | .loop c=>bnd (Y1 nt c) fun c=>some (.loop c)
 | .exit id=>some (.exit id)
 | .ret=>some .ret
 | _=>some .stuck
def Zb1:COp→COp
 | .buildDp s _ xs=>.buildSl s xs
 | .asgDp s _ x=>.assign (some s) x
 | .appDp s b flat x y=>.append s b false flat x y
 | c=>c
def ZeC:List CO→List CO
 | []=>[]
 | o :: r => { o with op:=Zb1 o.op } :: ZeC r
def ZmH:Option (List (Nat×Nat))→List CO→List CO
 | none,ops=>ZeC ops
 | some _,ops=>ops
def XF:Zp→Zp
 | .keep _ c=>XF c
 | .seq a b=>.seq (XF a) (XF b)
 | .cond c a b=>.cond c (XF a) (XF b)
 | .block id c=>.block id (XF c)
 | .loop c=>.loop (XF c)
 | .region n d ops=>.region n d (ZmH d ops)
 | .link _ _ _ c=>XF c
 | .melt c=>XF c
 | .skip=>.skip
 | .exit id=>.exit id
 | .ret=>.ret
 | .stuck=>.stuck
def ZeD (cf:QK):QK := { nt:=cf.nt,res:=cf.res,body:=XF cf.body }
def cRes:ResultVar→Option ZhX
 | .tmp t=>some (.tmp t)
 | .cell a t=>bnd (J9 P t) fun g=>some (.cell a g (P.cellsOf t))
def cFun (fn:Func):Option QK:=bnd fn.body fun c=>bnd (Y1 P fn.ntmps c) fun b=>bnd (Qh (cRes P) fn.results.toList) fun rs=>some { nt:=fn.ntmps,res:=rs,body:=b }
end
end Go.Abs
