/- The abstract semantics: regions,codes,bodies,calls. Own text. -/
import Derived.Test.YtkdjbefmiiibpaaGreatDoorAbsOps
set_option linter.unusedVariables false
set_option linter.unusedSimpArgs false
namespace Go.Abs
open Go
inductive Ex where
 | normal
 | exit (id:Nat)
 | ret
def Q7 (lo hi:Nat):Hp→Bool
 | []=>true
 | (k,_) :: r=>decide (lo≤k)&&decide (k<hi)&&Q7 (k+1) hi r
def XA (gone:List Nat) (sl:Sl):Sl:=match gone with
 | []=>sl
 | _=>Zgk (kill gone) sl
def Vf (gone:List Nat) (hp:Hp):Hp:=match gone with
 | []=>hp
 | _=>Zgk (X8 gone) hp
def Zs (sl:Sl) (dst:Option Nat) (v:AV):Sl:=match dst with
 | some t=>ins sl t v
 | none=>sl
def Zb.on (e:Zb) (dst:Option Nat) (sl:Sl) (hp:Hp):Sl×Hp:=
 (Zs (XA e.gone sl) dst e.eff.val,e.eff.on (Vf e.gone hp))
def Y1 (base:Nat) (dst:Option Nat) (sl:Sl) (hp:Hp) (e:Option Zb):Option (Sl×Hp):=
 bnd e fun e=>if Q7 base (base+64) e.eff.adds then some (e.on dst sl hp) else none
def Zem (want:Bool):AV→Option Bool
 | .d (.bool b)=>some (b==want)
 | .tup []=>some false
 | _=>none
def Z9 (sl:Sl):Option (Nat×Bool)→Option Bool
 | none=>some true
 | some q=>Zem q.2 (gs sl q.1)
inductive Zg where
 | skip
 | region (n:Nat) (draw:Option (List (Nat×Nat))) (ops:List CO)
 | seq (a b:Zg)
 | cond (c:Opd) (a b:Zg)
 | block (id:Nat) (c:Zg)
 | loop (c:Zg)
 | exit (id:Nat)
 | ret
 | keep (K:List Nat) (c:Zg)
 | stuck
 | link (id:Nat) (i:Opd) (j:Nat) (c:Zg)
 | melt (c:Zg)
inductive Zoh where
 | tmp (t:Nat)
 | cell (a:Nat) (g:Bool) (s:Nat)
structure ZR where
 nt:Nat
 res:List Zoh
 body:Zg
def ZmJ (x:Option Opd):List Opd:=match x with
 | some y=>[y]
 | none=>[]
def ZN:COp→List Opd
 | .move x=>[x]
 | .assign _ x=>[x]
 | .pick c a b=>[c,a,b]
 | .alloc _ _=>[]
 | .box x=>[x]
 | .build _ ps=>ps.map fun q=>q.2.2
 | .buildSl _ xs=>xs
 | .load _ _ a=>[a]
 | .store _ _ a x=>[a,x]
 | .nilCheck x=>[x]
 | .bin _ _ x y=>[x,y]
 | .un _ x=>[x]
 | .eqA _ _ x y=>[x,y]
 | .convI _ x=>[x]
 | .convS x=>[x]
 | .fn _ cs=>cs
 | .make _ _ _ l c=>[l,c]
 | .slice _ x lo hi=>x :: (ZmJ lo++ZmJ hi)
 | .sliceS x lo hi=>x :: (ZmJ lo++ZmJ hi)
 | .slice0 x hi mx=>[x,hi,mx]
 | .shift _ x=>[x]
 | .part _ _ _ x=>[x]
 | .iaS _ x i=>[x,i]
 | .iaA _ _ x i=>[x,i]
 | .ixS x i=>[x,i]
 | .ixA _ _ _ x i=>[x,i]
 | .nth _ x=>[x]
 | .len x=>[x]
 | .lenS x=>[x]
 | .append _ _ _ _ x y=>[x,y]
 | .min x y=>[x,y]
 | .max x y=>[x,y]
 | .call f as=>f :: as
 | .slice3 _ x lo hi mx=>[x,lo,hi,mx]
 | .clear _ _ x=>[x]
 | .stuck=>[]
 | .buildDp _ _ xs=>xs
 | .appDp _ _ _ x y=>[x,y]
 | .asgDp _ _ x=>[x]
def Zf3:COp→Bool
 | .store _ _ _ _=>true
 | _=>false
def isApp:COp→Bool
 | .append _ _ _ _ _ _=>true
 | _=>false
def ZmK (c:COp):Bool:=Zf3 c || isApp c
def CO.starts (o:CO):Bool:=Zf3 o.op || o.tl
def Z5 (os:List CO) (i:Nat):Bool:=match os[i]? with
 | some o=>CO.starts o
 | none=>false
def Za7:Opd→List Nat
 | .t n=>[n]
 | _=>[]
def ZmL:Option (Nat×Bool)→List Nat
 | some q=>[q.1]
 | none=>[]
def looks (o:CO):List Nat:=(ZN o.op).flatMap Za7++ZmL o.guard
def Q0:Option Nat→List Nat→Bool
 | some d,l=>!l.contains d
 | none,_=>true
def Zas:Option Nat→Option Nat→Bool
 | some d,some e=>d != e
 | _,_=>true
def XW (a b:CO):Bool:=Q0 a.dst (looks b)&&Zas a.dst b.dst&&Q0 b.dst (looks a)
def Vg:Opd→Bool
 | .v a=>(ZF a).isEmpty&&!Zoy a
 | _=>true
def ZqG (os:List CO) (j i:Nat):Bool:=match os[j]?,os[i]? with
 | some a,some b=>XW a b
 | _,_=>false
def WY:COp→Bool
 | .load _ _ _=>false
 | .store _ _ _ _=>false
 | .slice _ _ _ _=>false
 | .slice0 _ _ _=>false
 | .iaS _ _ _=>false
 | .len _=>false
 | .append _ _ _ _ _ _=>false
 | .buildSl _ _=>false
 | .buildDp _ _ _=>false
 | .appDp _ _ _ _ _=>false
 | .asgDp _ _ _=>false
 | .call _ _=>false
 | .slice3 _ _ _ _ _=>false
 | .clear _ _ _=>false
 | _=>true
def J2:COp→Bool
 | .load _ _ _=>true
 | .slice _ _ _ _=>true
 | .slice0 _ _ _=>true
 | .iaS _ _ _=>true
 | .len _=>true
 | _=>false
def ZtX:COp→Bool
 | .clear _ _ _=>false
 | .store _ _ _ _=>false
 | .append _ _ _ _ _ _=>false
 | .buildSl _ _=>false
 | .buildDp _ _ _=>false
 | .appDp _ _ _ _ _=>false
 | .asgDp _ _ _=>false
 | .call _ _=>false
 | _=>true
def Jm (os:List CO) (k:Nat):Option Nat:=match os[k]? with
 | some o=>o.dst
 | none=>none
def ZqH (os:List CO) (k:Nat):List Nat:=match os[k]? with
 | some o=>looks o
 | none=>[]
def Za8 (os:List CO) (k:Nat):Bool:=(List.range os.length).all fun q=>decide (q<k) || Q0 (Jm os q) (ZqH os k)
def Vu:COp→Bool
 | .move _=>true
 | _=>false
def Zen:COp→Bool
 | .append _ _ _ _ _ _=>true
 | .buildSl _ _=>true
 | _=>false
def ZaH:COp→Bool
 | .call (.f _) _=>true
 | _=>false
def Zjh:COp→List Opd
 | .call _ as=>as
 | _=>[]
def ZtY:COp→Bool
 | .alloc _ _=>false
 | .box _=>false
 | .assign _ _=>false
 | .make _ _ _ _ _=>false
 | .fn _ _=>false
 | _=>true
def Zo8:COp→Bool
 | .buildSl _ _=>true
 | _=>false
def Zc1:AV→Bool
 | .d _=>true
 | .nil=>true
 | .nilp=>true
 | .nili=>true
 | _=>false
def V3:List AV→Bool
 | []=>true
 | c :: r=>Zc1 c&&V3 r
def ZkQ:COp→Bool
 | .alloc _ cs=>V3 cs
 | _=>false
def ZmM (c:COp):Bool:=J2 c || Zo8 c || (WY c&&ZtY c) || ZkQ c
def Zii:COp→Bool
 | .alloc _ cs=>V3 cs
 | .buildSl _ _=>true
 | .load _ _ _=>true
 | .nilCheck _=>true
 | .bin _ _ _ _=>true
 | .un _ _=>true
 | .convI _ _=>true
 | .shift _ _=>true
 | .iaS _ _ _=>true
 | .slice _ _ _ _=>true
 | .len _=>true
 | .sliceS _ _ _=>true
 | .lenS _=>true
 | _=>false
def ZAz:Option Nat→Bool
 | some _=>true
 | none=>false
def ZkF (os:List CO) (k:Nat):Bool:=ZAz (Jm os k)&&(List.range os.length).all fun q=>q==k || Zas (Jm os q) (Jm os k)
def Zij (os:List CO) (j i:Nat):Bool:=Za8 os j&&Za8 os i
def Zx1 (os:List CO) (j i:Nat) (a b:COp):Bool:=
 ZtX b || (ZmK b&&(WY a || (!Vu a&&J2 a&&Zij os j i))) || (Vu a&&(Zen b || ZkF os j)) || (!Vu a&&ZaH b&&ZmM a&&Zij os j i&&ZkF os j)
def Zx2 (os:List CO) (j i:Nat) (a b:COp):Bool:=(Vu b&&ZkF os i) || (!Vu b&&ZaH a&&Zii b&&Zij os j i&&ZkF os i)
def ZqI (os:List CO) (j i:Nat):Bool:=match os[j]?,os[i]? with
 | some a,some b=>if Z5 os j then !Z5 os i&&Zx2 os j i a.op b.op else !Z5 os i || Zx1 os j i a.op b.op
 | _,_=>false
def Zeo (os:List CO) (j i:Nat):Option (Nat×Nat):=match os[j]?,os[i]? with
 | some a,some b=>if Z5 os j then (if Vu b.op || ZaH a.op then some (i,j) else none) else
   if Z5 os i&&(if ZmK b.op then !(WY a.op) else if Vu a.op then !(Zen b.op) else ZaH b.op) then some (j,i) else none
 | _,_=>none
def optP:Option (Nat×Nat)→List (Nat×Nat)
 | some p=>[p]
 | none=>[]
def Zcl (ops:Array Oper) (os:List CO):List (Nat×Nat):=
 (List.range ops.size).flatMap fun i=>(List.range i).flatMap fun j=>if Zg9 ops 6 i j then [] else optP (Zeo os j i)
def ZmN (ops:Array Oper) (os:List CO):Bool:=
 (List.range ops.size).all (fun i=>(Wv ops i).all fun e=>decide (e<i)) &&
 (List.range ops.size).all (fun i=>(List.range i).all fun j=>(Wv ops i).contains j || ZqG os j i) &&
 (List.range ops.size).all (fun i=>(List.range i).all fun j=>Zg9 ops 6 i j || ZqI os j i) &&
 os.all (fun o=>(ZN o.op).all Vg)
def Zcm (id:Nat):AV→Bool
 | .d _=>true
 | .pim _=>true
 | .nil=>true
 | .ptr k _=>k != id
 | .prow k _ _ _=>k != id
 | .own k=>k != id
 | .ownv k _ _=>k != id
 | .nilp=>true
 | .nili=>true
 | .tup []=>true
 | _=>false
def okC:AV→Bool
 | .d _=>true
 | .pim _=>true
 | .nil=>true
 | .ptr _ _=>true
 | .prow _ _ _ _=>true
 | .own _=>true
 | .ownv _ _ _=>true
 | .nilp=>true
 | .nili=>true
 | _=>false
def ZqJ:List AV→Bool
 | []=>true
 | v :: r=>okC v&&ZqJ r
def okV:AV→Bool
 | .agg cs=>ZqJ cs
 | .tup []=>true
 | v=>okC v
def okL (sl:Sl):List Opd→Bool
 | []=>true
 | x :: r=>okV (evO sl x)&&okL sl r
def okD (sl:Sl):Option Nat→Bool
 | some t=>okV (gs sl t)
 | none=>true
def V4:AV→Option Nat
 | .ptr k _=>some k
 | .prow k _ _ _=>some k
 | _=>none
def XI (sl:Sl) (id:Nat):List Opd→Bool
 | []=>true
 | x :: r=>Zcm id (evO sl x)&&XI sl id r
def Zep (sl:Sl) (a:COp):Option Nat→Bool
 | some id=>XI sl id (ZN a)
 | none=>false
def Zcn (sl:Sl) (xs:List Opd):AV→Bool
 | .ptr k _=>XI sl k xs
 | .prow _ _ _ _=>false
 | _=>true
def Zfr (sl:Sl) (xs:List Opd):List Opd→Bool
 | []=>true
 | y :: r=>Zcn sl xs (evO sl y)&&Zfr sl xs r
def U1 (sl:Sl) (a:COp):AV→Bool
 | .nil=>true
 | .tup []=>true
 | .own k=>XI sl k (ZN a)
 | .ownv k _ _=>XI sl k (ZN a)
 | .sub k _=>XI sl k (ZN a)
 | _=>false
def seenSrc (sl:Sl) (a:COp):AV→Bool
 | .own k=>XI sl k (ZN a)
 | v=>okV v
def Jc (sl:Sl) (d:Option Nat):COp→COp→Bool
 | .move _,_=>okD sl d
 | a,.store _ _ x _=>Zep sl a (V4 (evO sl x))
 | a,.append _ _ _ flat x y=>U1 sl a (evO sl x)&&(flat || seenSrc sl a (evO sl y))
 | a,.call _ as=>okL sl (ZN a)&&(okD sl d&&(okL sl as&&Zfr sl (ZN a) as))
 | _,_=>false
def Zik (os:List CO) (sl:Sl) (p:Nat×Nat):Bool:=match os[p.1]?,os[p.2]? with
 | some a,some b=>Jc sl a.dst a.op b.op
 | _,_=>false
def U2 (os:List CO) (sl:Sl):List (Nat×Nat)→Bool
 | []=>true
 | p :: r=>Zik os sl p&&U2 os sl r
section
variable (C:Orc) (M:Zo)
noncomputable def ZdH (nx:Nat):Nat→List CO→Sl→Hp→Option (Sl×Hp)
 | _,[],sl,hp=>some (sl,hp)
 | i,o :: rest,sl,hp=>bnd (Z9 sl o.guard) fun b=>
   if b then bnd (Y1 (nx+64*i) o.dst sl hp (vop C M sl hp (nx+64*i) o.op)) fun r=>ZdH nx (i+1) rest r.1 r.2
   else ZdH nx (i+1) rest (Zs sl o.dst (.tup [])) hp
def Zeq (c:Zb):List Nat→Hp→List Nat→List Nat→Option Zb
 | [],[],[],[]=>some c
 | _,_,_,_=>none
def Zco (e:Option Zb):Option Zb:=bnd e fun c=>Zeq c c.gone c.eff.sets c.eff.dels c.eff.frz
noncomputable def Wz (nx i:Nat) (tail:Bool) (o:COp) (sl:Sl) (hp:Hp):Option Zb:=
 if tail then vop C M sl hp (nx+64*i) o else Zco (vop C M sl hp (nx+64*i) o)
noncomputable def UQ (nx:Nat):Nat→Bool→List CO→Sl→Hp→Option (Sl×Hp)
 | _,_,[],sl,hp=>some (sl,hp)
 | i,t,o :: rest,sl,hp=>bnd (Z9 sl o.guard) fun b=>
   if b then bnd (Y1 (nx+64*i) o.dst sl hp (Wz C M nx i (CO.starts o) o.op sl hp)) fun r=>UQ nx (i+1) t rest r.1 r.2
   else UQ nx (i+1) t rest (Zs sl o.dst (.tup [])) hp
def Zhc {α:Type}:List (Nat×α)→List Nat
 | []=>[]
 | (k,_) :: r=>k :: Zhc r
def only {α:Type} (K:List Nat):List (Nat×α)→List (Nat×α)
 | []=>[]
 | (k,v) :: r=>if K.contains k then (k,v) :: only K r else only K r
def V5:Nat→List Zl→Hp
 | _,[]=>[]
 | k,o :: r=>V5 (k+1) r++[(k,o)]
def ZmO:Sl→List Nat
 | []=>[]
 | (_,v) :: r=>ZF v++ZmO r
def J3:Option Zl→Bool
 | some _=>true
 | none=>false
def Zc2 (hp:Hp) (ids:List Nat) (i:Nat):Bool:=ids.contains i&&J3 (lkp hp i)
def Zfs (hp:Hp) (ids:List Nat):List Nat→List Nat
 | []=>[]
 | i :: r=>if Zc2 hp ids i then Zfs hp ids r else i :: Zfs hp ids r
def ZdI (hp:Hp) (ids:List Nat) (v:AV):AV:=ren (Wu ids) (kill (Zfs hp ids (ZF v)) v)
def Zft (hp:Hp) (ids:List Nat) (o:Zl):Zl:=ZkC (Wu ids) (X8 (Zfs hp ids (ZaS o)) o)
def ZtZ:Option Zl→List Nat
 | some o=>ZaS o
 | none=>[]
def Wx (hp:Hp):List Nat→List Nat
 | []=>[]
 | id :: r=>ZtZ (lkp hp id)++Wx hp r
def Uu (K:List Nat) (st:St):St:=
 let sl:=only K st.sl
 let ids:=QX st.hp (Xz st.hp) (ZmO sl++Wx st.hp (List.range st.m)) (List.range st.m)
 { sl:=Zgk (ZdI st.hp ids) sl,hp:=V5 0 ((Zcb st.hp ids).map (Zft st.hp ids)),nx:=ids.length,m:=st.m }
def UR (f:St→Option (Ex×St)) (K:List Nat):Nat→St→Option (Ex×St)
 | 0,_=>none
 | n+1,st=>match f (Uu K st) with
  | some (.normal,st')=>UR f K n st'
  | r=>r
def andThen (r:Option (Ex×St)) (k:St→Option (Ex×St)):Option (Ex×St):=match r with
 | some (.normal,st)=>k st
 | r=>r
def Zfu (v:AV) (a b:Option (Ex×St)):Option (Ex×St):=match v with
 | .d (.bool t)=>if t then a else b
 | _=>none
def ZeH (id:Nat) (r:Option (Ex×St)):Option (Ex×St):=match r with
 | some (.exit j,st)=>if j=id then some (.normal,st) else some (.exit j,st)
 | r=>r
def ZmP (ops:List CO) (ps:List (Nat×Nat)) (r:Option (Sl×Hp)):Option (Sl×Hp):=bnd r fun r=>if U2 ops r.1 ps then some r else none
def Zil (m nx:Nat) (r:Option (Sl×Hp)):Option (Ex×St):=bnd r fun r=>some (.normal,{ sl:=r.1,hp:=r.2,nx:=nx,m:=m })
def Zj1 (K:List Nat) (r:Option (Ex×St)):Option (Ex×St):=match r with
 | some q=>some (q.1,{ q.2 with sl:=only K q.2.sl })
 | none=>none
def ZuU (nx n j:Nat):Option Zl→Option Zl
 | some (.deep s k xs _)=>bnd (Zh9 xs n j) fun _=>some (.deep s k xs (some (nx,n,j)))
 | _=>none
def Zc3 (id:Nat) (i:Opd) (j:Nat) (st:St):Option St:=bnd (idx (evO st.sl i)) fun n=>if 0≤n then bnd (ZuU st.nx n.toNat j (lkp st.hp id)) fun o=>some { st with hp:=ins st.hp id o,nx:=st.nx+64 } else none
def ZqK (st:St):St := { st with hp:=Zgk Zcf st.hp }
noncomputable def ZI (N:Nat):Zg→St→Option (Ex×St)
 | .skip,st=>some (.normal,st)
 | .region n none ops,st=>Zil st.m (st.nx+64*n) (ZdH C M st.nx 0 ops st.sl st.hp)
 | .region n (some ps) ops,st=>Zil st.m (st.nx+64*n) (ZmP ops ps (UQ C M st.nx 0 false ops st.sl st.hp))
 | .seq a b,st=>andThen (ZI N a st) (ZI N b)
 | .cond c a b,st=>Zfu (evO st.sl c) (ZI N a st) (ZI N b st)
 | .block id c,st=>ZeH id (ZI N c st)
 | .loop c,st=>UR (ZI N c) (Zhc st.sl) N st
 | .exit id,st=>some (.exit id,st)
 | .ret,st=>some (.ret,st)
 | .keep K c,st=>Zj1 K (ZI N c st)
 | .stuck,_=>none
 | .link id i j c,st=>bnd (Zc3 id i j st) (ZI N c)
 | .melt c,st=>ZI N c (ZqK st)
def ZkG (st:St):Zoh→Option AV
 | .tmp t=>some (gs st.sl t)
 | .cell a g s=>UP st.hp g s (gs st.sl a)
def Vv (m:Nat) (hp:Hp) (v:AV):AV×List Zl:=
 let ids:=QX hp (Xz hp) (ZF v++Wx hp (List.range m)) (List.range m)
 (ZdI hp ids v,(Zcb hp ids).map (Zft hp ids))
def ZuV:AV→Bool
 | .tup _=>true
 | _=>false
def Zhd:List AV→Bool
 | []=>false
 | v :: r=>ZuV v || Zhd r
def Zbn:List AV→AV
 | [v]=>v
 | vs=>if Zhd vs then .junk else .tup vs
def WZ:Nat→List AV→Sl
 | _,[]=>[]
 | k,v :: r=>WZ (k+1) r++[(k,v)]
def Za9 (m:Nat) (rs:List Zoh) (r:Option (Ex×St)):Option (AV×List Zl):=match r with
 | some (.normal,st)=>bnd (QU (ZkG st) rs) fun vs=>some (Vv m st.hp (Zbn vs))
 | some (.ret,st)=>bnd (QU (ZkG st) rs) fun vs=>some (Vv m st.hp (Zbn vs))
 | _=>none
noncomputable def Zim (N:Nat) (fn:ZR) (as:List AV) (h:List Zl):Option (AV×List Zl):=
 if as.length≤fn.nt then Za9 h.length fn.res (ZI C M N fn.body { sl:=WZ 0 as,hp:=V5 0 h,nx:=h.length,m:=h.length }) else none
end
inductive Fn where
 | text (f:ZR)
 | prim (p:List AV→List Zl→Option (AV×List Zl))
abbrev Fns:=Nat→Option Fn
noncomputable def Zer (C:Orc) (M:Zo) (N:Nat) (as:List AV) (h:List Zl):Option Fn→Option (AV×List Zl)
 | some (.text f)=>Zim C M N f as h
 | some (.prim p)=>p as h
 | none=>none
noncomputable def Qt (X:Fns) (M:Zo):Nat→Orc
 | 0,_,_,_=>none
 | n+1,f,as,h=>Zer (Qt X M n) M n as h (X f)
open Classical in
noncomputable def lim {α:Type} (x:Nat→Option α):Option α:=if h:∃ r,∃ n,x n=some r then some h.choose else none
def Zwg {α:Type} (x:Nat→Option α):Prop:=∀ n r,x n=some r→x (n+1)=some r
theorem Zwg.le {α:Type} {x:Nat→Option α} (h:Zwg x) {n m:Nat} {r:α} (hr:x n=some r) (hnm:n≤m):x m=some r:=by
 induction hnm with
 | refl=>exact hr
 | step _ ih=>exact h _ _ ih
theorem Zhe {α:Type} {x:Nat→Option α} (h:Zwg x) {n:Nat} {r:α} (hr:x n=some r):lim x=some r:=by
 have he:∃ r,∃ n,x n=some r:=⟨r,n,hr⟩
 unfold lim
 rw[dif_pos he]
 obtain⟨m,hm⟩:=he.choose_spec
 have h1:=h.le hm (Nat.le_max_left m n)
 have h2:=h.le hr (Nat.le_max_right m n)
 rw[h1] at h2
 exact h2
theorem Zfv {α:Type} {x:Nat→Option α} {r:α} (hr:lim x=some r):∃ n,x n=some r:=by
 unfold lim at hr
 split at hr
 ·rename_i h
  obtain⟨n,hn⟩:=h.choose_spec
  exact⟨n,by rw[hn];exact hr⟩
 ·cases hr
def Orc.le (C C' : Orc):Prop:=∀ f as h r,C f as h=some r→C' f as h=some r
section
variable {M:Zo} {C C' : Orc}
theorem Zba {α β:Type} {x x' : Option α} {f f' : α→Option β} {r:β} (hx:∀ a,x=some a→x'=some a) (hf:∀ a,f a=some r→f' a=some r) (h:bnd x f=some r):bnd x' f'=some r:=by
 obtain⟨a,h1,h2⟩:=Za h
 rw[hx a h1];exact hf a h2
theorem Zx3 (h:C.le C') {m:Nat→Bool} {hp:Hp} {base f:Nat} {avs:List AV} {r:Zb}
  (hr:Zbk C m hp base f avs=some r):Zbk C' m hp base f avs=some r:=by
 unfold Zbk at hr ⊢
 refine Zba (fun _ h=>h) (fun as hr=>?_) hr
 unfold ZcA at hr ⊢
 by_cases hc:(as.flatMap ZF).all (QX hp (Xz hp) (as.flatMap ZF) []).contains∧¬(Vc avs as).any (QX hp (Xz hp) (as.flatMap ZF) []).contains∧Zbz hp (as.flatMap ZaV) (QX hp (Xz hp) (as.flatMap ZF) [])=true
 ·rw[if_pos hc] at hr ⊢
  exact Zba (fun q hq=>h _ _ _ _ hq) (fun _ h=>h) hr
 ·rw[if_neg hc] at hr;cases hr
theorem ZqL (h:C.le C') {sl:Sl} {hp:Hp} {base:Nat} {o:COp} {r:Zb} (hr:vop C M sl hp base o=some r) :
  vop C' M sl hp base o=some r:=by
 cases o with
 | call f as=>
  simp only[vop] at hr ⊢
  cases hg:evO sl f<;>simp only[hg,Zcg] at hr ⊢ <;> first | exact Zx3 h hr | exact hr
 | _=>exact hr
theorem ZqM (h:C.le C') (nx:Nat):∀ (l:List CO) (i:Nat) (sl:Sl) (hp:Hp) (r:Sl×Hp),
  ZdH C M nx i l sl hp=some r→ZdH C' M nx i l sl hp=some r:=by
 intro l
 induction l with
 | nil=>intro i sl hp r hr;exact hr
 | cons o rest ih=>
  intro i sl hp r hr
  simp only[ZdH] at hr ⊢
  refine Zba (fun _ h=>h) (fun b hr=>?_) hr
  cases b
  ·simp only[Bool.false_eq_true,if_false] at hr ⊢
   exact ih _ _ _ _ hr
  ·simp only[if_true] at hr ⊢
   refine Zba (fun q hq=>?_) (fun q hq=>ih _ _ _ _ hq) hr
   unfold Y1 at hq ⊢
   exact Zba (fun e he=>ZqL h he) (fun _ h=>h) hq
theorem ZuW (h:C.le C') {nx i:Nat} {t:Bool} {o:COp} {sl:Sl} {hp:Hp} {e:Zb} (he:Wz C M nx i t o sl hp=some e) :
  Wz C' M nx i t o sl hp=some e:=by
 unfold Wz at he ⊢
 cases t
 ·simp only[Bool.false_eq_true,if_false,Zco] at he ⊢
  exact Zba (fun _ hv=>ZqL h hv) (fun _ h=>h) he
 ·simp only[if_true] at he ⊢
  exact ZqL h he
theorem Zin (h:C.le C') (nx:Nat):∀ (l:List CO) (i:Nat) (t:Bool) (sl:Sl) (hp:Hp) (r:Sl×Hp),
  UQ C M nx i t l sl hp=some r→UQ C' M nx i t l sl hp=some r:=by
 intro l
 induction l with
 | nil=>intro i t sl hp r hr;exact hr
 | cons o rest ih=>
  intro i t sl hp r hr
  simp only[UQ] at hr ⊢
  refine Zba (fun _ h=>h) (fun b hr=>?_) hr
  cases b
  ·simp only[Bool.false_eq_true,if_false] at hr ⊢
   exact ih _ _ _ _ _ hr
  ·simp only[if_true] at hr ⊢
   refine Zba (fun q hq=>?_) (fun q hq=>ih _ _ _ _ _ hq) hr
   unfold Y1 at hq ⊢
   exact Zba (fun e he=>ZuW h he) (fun _ h=>h) hq
theorem Zio {f g:St→Option (Ex×St)} (h:∀ st r,f st=some r→g st=some r) (K:List Nat) :
  ∀ (n m:Nat) (st:St) (r:Ex×St),n≤m→UR f K n st=some r→UR g K m st=some r:=by
 intro n
 induction n with
 | zero=>intro m st r _ hr;simp[UR] at hr
 | succ n ih=>
  intro m st r hm hr
  cases m with
  | zero=>omega
  | succ m=>
   simp only[UR] at hr ⊢
   cases hf:f (Uu K st) with
   | none=>simp[hf] at hr
   | some q=>
    rw[hf] at hr
    rw[h _ _ hf]
    obtain⟨e,st'⟩:=q
    cases e with
    | normal=>exact ih m st' r (by omega) hr
    | exit id=>exact hr
    | ret=>exact hr
theorem ZkR (h:C.le C') {N N' : Nat} (hN:N≤N'):∀ (c:Zg) (st:St) (r:Ex×St),
  ZI C M N c st=some r→ZI C' M N' c st=some r:=by
 intro c
 induction c with
 | skip=>intro st r hr;simpa [ZI] using hr
 | region n draw ops=>
  intro st r hr
  cases draw
  ·simp only[ZI,Zil] at hr ⊢
   exact Zba (fun q hq=>ZqM h _ _ _ _ _ _ hq) (fun _ h=>h) hr
  ·simp only[ZI,Zil,ZmP] at hr ⊢
   exact Zba (fun q hq=>Zba (fun q hq=>Zin h _ _ _ _ _ _ _ hq) (fun _ h=>h) hq) (fun _ h=>h) hr
 | seq a b iha ihb=>
  intro st r hr
  simp only[ZI] at hr ⊢
  cases ha:ZI C M N a st with
  | none=>simp[ha,andThen] at hr
  | some q=>
   rw[ha] at hr
   rw[iha _ _ ha]
   obtain⟨e,st'⟩:=q
   cases e with
   | normal=>exact ihb _ _ hr
   | exit id=>exact hr
   | ret=>exact hr
 | cond c a b iha ihb=>
  intro st r hr
  simp only[ZI,Zfu] at hr ⊢
  split at hr
  ·rename_i t ht
   cases t
   ·simp only[Bool.false_eq_true,if_false] at hr ⊢;exact ihb _ _ hr
   ·simp only[if_true] at hr ⊢;exact iha _ _ hr
  ·cases hr
 | block id c ih=>
  intro st r hr
  simp only[ZI] at hr ⊢
  cases hc:ZI C M N c st with
  | none=>simp[hc,ZeH] at hr
  | some q=>rw[hc] at hr;rw[ih _ _ hc];exact hr
 | loop c ih=>
  intro st r hr
  simp only[ZI] at hr ⊢
  exact Zio ih _ _ _ _ _ hN hr
 | exit id=>intro st r hr;simpa [ZI] using hr
 | ret=>intro st r hr;simpa [ZI] using hr
 | keep K c ih=>
  intro st r hr
  simp only[ZI] at hr ⊢
  cases hc:ZI C M N c st with
  | none=>simp[hc,Zj1] at hr
  | some q=>rw[hc] at hr;rw[ih _ _ hc];exact hr
 | stuck=>intro st r hr;simp[ZI] at hr
 | link id i j c ih=>
  intro st r hr
  simp only[ZI] at hr ⊢
  obtain⟨st',h1,h2⟩:=Za hr
  rw[h1,Ze]
  exact ih st' r h2
 | melt c ih=>
  intro st r hr
  simp only[ZI] at hr ⊢
  exact ih _ r hr
theorem Zx4 (h:C.le C') {N N' : Nat} (hN:N≤N') {f:ZR} {as:List AV} {hh:List Zl} {r:AV×List Zl}
  (hr:Zim C M N f as hh=some r):Zim C' M N' f as hh=some r:=by
 unfold Zim at hr ⊢
 by_cases hl:as.length≤f.nt
 ·rw[if_pos hl] at hr ⊢
  cases hv:ZI C M N f.body { sl:=WZ 0 as,hp:=V5 0 hh,nx:=hh.length,m:=hh.length } with
  | none=>simp[hv,Za9] at hr
  | some q=>rw[hv] at hr;rw[ZkR h hN _ _ _ hv];exact hr
 ·rw[if_neg hl] at hr;cases hr
end
section
variable (X:Fns) (M:Zo)
theorem Zji:∀ n,(Qt X M n).le (Qt X M (n+1)):=by
 intro n
 induction n with
 | zero=>intro f as h r hr;simp[Qt] at hr
 | succ n ih=>
  intro f as h r hr
  rw[Qt] at hr ⊢
  cases hf:X f with
  | none=>rw[hf] at hr;cases hr
  | some g=>
   rw[hf] at hr
   cases g with
   | text g=>exact Zx4 ih (Nat.le_succ n) hr
   | prim p=>exact hr
noncomputable def Zk (f:Nat) (as:List AV) (h:List Zl):Option (AV×List Zl):=lim fun n=>Qt X M n f as h
noncomputable def Q1 (c:Zg) (st:St):Option (Ex×St):=lim fun n=>ZI (Qt X M n) M n c st
theorem ZcG (f:Nat) (as:List AV) (h:List Zl):Zwg fun n=>Qt X M n f as h:=fun n r hr=>Zji X M n f as h r hr
theorem Zes (n:Nat):(Qt X M n).le (Zk X M):=fun f as h _ hr=>Zhe (ZcG X M f as h) hr
theorem Zhf (c:Zg) (st:St):Zwg fun n=>ZI (Qt X M n) M n c st:=fun n r hr=>ZkR (Zji X M n) (Nat.le_succ n) c st r hr
theorem Zcp {n m:Nat} (h:n≤m):(Qt X M n).le (Qt X M m):=fun f as hh _ hr=>(ZcG X M f as hh).le hr h
theorem Zsn {m:Nat→Bool} {hp:Hp} {base f:Nat} {avs:List AV} {r:Zb}
  (hr:Zbk (Zk X M) m hp base f avs=some r):∃ n,Zbk (Qt X M n) m hp base f avs=some r:=by
 unfold Zbk at hr ⊢
 obtain⟨as,has,hr⟩:=Za hr
 simp only[has,Ze]
 unfold ZcA at hr ⊢
 by_cases hc:(as.flatMap ZF).all (QX hp (Xz hp) (as.flatMap ZF) []).contains∧¬(Vc avs as).any (QX hp (Xz hp) (as.flatMap ZF) []).contains∧Zbz hp (as.flatMap ZaV) (QX hp (Xz hp) (as.flatMap ZF) [])=true
 ·rw[if_pos hc] at hr
  obtain⟨q,hq,hr⟩:=Za hr
  obtain⟨n,hn⟩:=Zfv hq
  refine⟨n,?_⟩
  rw[if_pos hc,hn]
  exact hr
 ·rw[if_neg hc] at hr;cases hr
theorem Zjj {sl:Sl} {hp:Hp} {base:Nat} {o:COp} {r:Zb} (hr:vop (Zk X M) M sl hp base o=some r) :
  ∃ n,vop (Qt X M n) M sl hp base o=some r:=by
 cases o with
 | call f as=>
  simp only[vop] at hr ⊢
  cases hg:evO sl f<;>simp only[hg,Zcg] at hr ⊢ <;> first | exact Zsn X M hr | exact⟨0,hr⟩
 | _=>exact⟨0,hr⟩
theorem Zt0 (nx:Nat):∀ (l:List CO) (i:Nat) (sl:Sl) (hp:Hp) (r:Sl×Hp),
  ZdH (Zk X M) M nx i l sl hp=some r→∃ n,ZdH (Qt X M n) M nx i l sl hp=some r:=by
 intro l
 induction l with
 | nil=>intro i sl hp r hr;exact⟨0,hr⟩
 | cons o rest ih=>
  intro i sl hp r hr
  simp only[ZdH] at hr ⊢
  obtain⟨b,hb,hr⟩:=Za hr
  simp only[hb,Ze]
  cases b
  ·simp only[Bool.false_eq_true,if_false] at hr ⊢
   exact ih _ _ _ _ hr
  ·simp only[if_true] at hr ⊢
   obtain⟨q,hq,hr⟩:=Za hr
   unfold Y1 at hq
   obtain⟨e,he,hq⟩:=Za hq
   obtain⟨n1,h1⟩:=Zjj X M he
   obtain⟨n2,h2⟩:=ih _ _ _ _ hr
   refine⟨max n1 n2,?_⟩
   unfold Y1
   rw[ZqL (Zcp X M (Nat.le_max_left n1 n2)) h1,Ze,hq,Ze]
   exact ZqM (Zcp X M (Nat.le_max_right n1 n2)) _ _ _ _ _ _ h2
theorem Zt1 {nx i:Nat} {t:Bool} {o:COp} {sl:Sl} {hp:Hp} {e:Zb} (he:Wz (Zk X M) M nx i t o sl hp=some e) :
  ∃ n,Wz (Qt X M n) M nx i t o sl hp=some e:=by
 unfold Wz at he ⊢
 cases t
 ·simp only[Bool.false_eq_true,if_false,Zco] at he ⊢
  obtain⟨e',he',h2⟩:=Za he
  obtain⟨n,hn⟩:=Zjj X M he'
  exact⟨n,by rw[hn];exact h2⟩
 ·simp only[if_true] at he ⊢
  exact Zjj X M he
theorem Zso (nx:Nat):∀ (l:List CO) (i:Nat) (t:Bool) (sl:Sl) (hp:Hp) (r:Sl×Hp),
  UQ (Zk X M) M nx i t l sl hp=some r→∃ n,UQ (Qt X M n) M nx i t l sl hp=some r:=by
 intro l
 induction l with
 | nil=>intro i t sl hp r hr;exact⟨0,hr⟩
 | cons o rest ih=>
  intro i t sl hp r hr
  simp only[UQ] at hr ⊢
  obtain⟨b,hb,hr⟩:=Za hr
  simp only[hb,Ze]
  cases b
  ·simp only[Bool.false_eq_true,if_false] at hr ⊢
   exact ih _ _ _ _ _ hr
  ·simp only[if_true] at hr ⊢
   obtain⟨q,hq,hr⟩:=Za hr
   unfold Y1 at hq
   obtain⟨e,he,hq⟩:=Za hq
   obtain⟨n1,h1⟩:=Zt1 X M he
   obtain⟨n2,h2⟩:=ih _ _ _ _ _ hr
   refine⟨max n1 n2,?_⟩
   unfold Y1
   rw[ZuW (Zcp X M (Nat.le_max_left n1 n2)) h1,Ze,hq,Ze]
   exact Zin (Zcp X M (Nat.le_max_right n1 n2)) _ _ _ _ _ _ _ h2
theorem XK {c:Zg} {st:St} {n:Nat} {r:Ex×St} (h:ZI (Qt X M n) M n c st=some r):Q1 X M c st=some r:=
 Zhe (Zhf X M c st) h
theorem Vw {α:Type} {x:Nat→Option α} (h:∀ n,x n=none):lim x=none:=by
 cases hx:lim x with
 | none=>rfl
 | some r=>obtain⟨n,hn⟩:=Zfv hx;rw[h n] at hn;cases hn
theorem Zt2 (st:St):Q1 X M .skip st=some (.normal,st):=XK X M (n:=0) (by simp[ZI])
theorem Zt3 (id:Nat) (st:St):Q1 X M (.exit id) st=some (.exit id,st):=XK X M (n:=0) (by simp[ZI])
theorem Zwh (st:St):Q1 X M .ret st=some (.ret,st):=XK X M (n:=0) (by simp[ZI])
theorem ZqN (n:Nat) (ops:List CO) (st:St) :
  Q1 X M (.region n none ops) st=Zil st.m (st.nx+64*n) (ZdH (Zk X M) M st.nx 0 ops st.sl st.hp):=by
 cases h:ZdH (Zk X M) M st.nx 0 ops st.sl st.hp with
 | some r=>
  obtain⟨k,hk⟩:=Zt0 X M _ _ _ _ _ _ h
  exact XK X M (n:=k) (by simp only[ZI,hk,Zil,Ze])
 | none=>
  refine Vw fun k=>?_
  simp only[ZI]
  cases hn:ZdH (Qt X M k) M st.nx 0 ops st.sl st.hp with
  | none=>rfl
  | some r=>rw[ZqM (Zes X M k) _ _ _ _ _ _ hn] at h;cases h
theorem Zt4 (n:Nat) (ps:List (Nat×Nat)) (ops:List CO) (st:St) :
  Q1 X M (.region n (some ps) ops) st=Zil st.m (st.nx+64*n) (ZmP ops ps (UQ (Zk X M) M st.nx 0 false ops st.sl st.hp)):=by
 cases h:UQ (Zk X M) M st.nx 0 false ops st.sl st.hp with
 | some r=>
  obtain⟨k,hk⟩:=Zso X M _ _ _ _ _ _ _ h
  cases hs:ZmP ops ps (some r) with
  | none=>
   refine Vw fun k'=>?_
   simp only[ZI]
   cases hn:UQ (Qt X M k') M st.nx 0 false ops st.sl st.hp with
   | none=>rfl
   | some r' =>
    have:=Zin (Zes X M k') _ _ _ _ _ _ _ hn
    rw[h] at this
    cases this
    rw[hs];rfl
  | some r'=>exact XK X M (n:=k) (by simp only[ZI,hk,hs];rfl)
 | none=>
  refine Vw fun k=>?_
  simp only[ZI]
  cases hn:UQ (Qt X M k) M st.nx 0 false ops st.sl st.hp with
  | none=>rfl
  | some r=>rw[Zin (Zes X M k) _ _ _ _ _ _ _ hn] at h;cases h
theorem J4 {c:Zg} {st:St} {r:Ex×St} (h:Q1 X M c st=some r):∃ n,∀ m,n≤m→ZI (Qt X M m) M m c st=some r:=by
 obtain⟨n,hn⟩:=Zfv h
 exact⟨n,fun m hm=>(Zhf X M c st).le hn hm⟩
theorem Zwi (a b:Zg) (st:St):Q1 X M (.seq a b) st=andThen (Q1 X M a st) (Q1 X M b):=by
 cases ha:Q1 X M a st with
 | none=>
  refine Vw fun n=>?_
  cases h:ZI (Qt X M n) M n a st with
  | none=>simp[ZI,h,andThen]
  | some q=>rw[XK X M h] at ha;cases ha
 | some q=>
  obtain⟨e,st'⟩:=q
  obtain⟨n,hn⟩:=J4 X M ha
  cases e with
  | normal=>
   simp only[andThen]
   cases hb:Q1 X M b st' with
   | none=>
    refine Vw fun k=>?_
    cases h:ZI (Qt X M k) M k (.seq a b) st with
    | none=>rfl
    | some q=>
     have h1:=(Zhf X M (.seq a b) st).le h (Nat.le_max_left k n)
     simp only[ZI,hn _ (Nat.le_max_right k n),andThen] at h1
     rw[XK X M h1] at hb
     cases hb
   | some q=>
    obtain⟨m,hm⟩:=J4 X M hb
    refine XK X M (n:=max n m) ?_
    simp only[ZI,hn _ (Nat.le_max_left n m),andThen,hm _ (Nat.le_max_right n m)]
  | exit id=>exact XK X M (n:=n) (by simp only[ZI,hn _ (Nat.le_refl n),andThen])
  | ret=>exact XK X M (n:=n) (by simp only[ZI,hn _ (Nat.le_refl n),andThen])
theorem Zt5 (c:Opd) (a b:Zg) (st:St) :
  Q1 X M (.cond c a b) st=Zfu (evO st.sl c) (Q1 X M a st) (Q1 X M b st):=by
 unfold Zfu
 split
 ·rename_i t h
  cases t
  ·simp only[Bool.false_eq_true,if_false,Q1,ZI,h,Zfu]
  ·simp only[if_true,Q1,ZI,h,Zfu]
 ·rename_i h
  refine Vw fun n=>?_
  simp only[ZI,Zfu]
theorem Zsp (id:Nat) (c:Zg) (st:St):Q1 X M (.block id c) st=ZeH id (Q1 X M c st):=by
 cases hc:Q1 X M c st with
 | none=>
  refine Vw fun n=>?_
  cases h:ZI (Qt X M n) M n c st with
  | none=>simp[ZI,h,ZeH]
  | some q=>rw[XK X M h] at hc;cases hc
 | some q=>
  obtain⟨n,hn⟩:=J4 X M hc
  cases hb:ZeH id (some q) with
  | none=>
   obtain⟨e,st'⟩:=q
   cases e<;>simp[ZeH] at hb
   split at hb<;>cases hb
  | some r=>exact XK X M (n:=n) (by simp only[ZI,hn _ (Nat.le_refl n),hb])
theorem Zt6 (K:List Nat) (c:Zg) (st:St):Q1 X M (.keep K c) st=Zj1 K (Q1 X M c st):=by
 cases hc:Q1 X M c st with
 | none=>
  refine Vw fun n=>?_
  cases h:ZI (Qt X M n) M n c st with
  | none=>simp[ZI,h,Zj1]
  | some q=>rw[XK X M h] at hc;cases hc
 | some q=>
  obtain⟨n,hn⟩:=J4 X M hc
  exact XK X M (n:=n) (by simp only[ZI,hn _ (Nat.le_refl n),Zj1])
theorem Zt7 (id:Nat) (i:Opd) (j:Nat) (c:Zg) (st:St):Q1 X M (.link id i j c) st=bnd (Zc3 id i j st) (Q1 X M c):=by
 cases hl:Zc3 id i j st with
 | none=>
  refine Vw fun n=>?_
  simp only[ZI,hl];rfl
 | some st' =>
  rw[Ze]
  cases hc:Q1 X M c st' with
  | none=>
   refine Vw fun n=>?_
   cases h:ZI (Qt X M n) M n c st' with
   | none=>simp only[ZI,hl,Ze,h]
   | some q=>rw[XK X M h] at hc;cases hc
  | some q=>
   obtain⟨n,hn⟩:=J4 X M hc
   exact XK X M (n:=n) (by simp only[ZI,hl,Ze,hn _ (Nat.le_refl n)])
theorem Zt8 (c:Zg) (st:St):Q1 X M (.melt c) st=Q1 X M c (ZqK st):=by
 cases hc:Q1 X M c (ZqK st) with
 | none=>
  refine Vw fun n=>?_
  cases h:ZI (Qt X M n) M n c (ZqK st) with
  | none=>simp only[ZI,h]
  | some q=>rw[XK X M h] at hc;cases hc
 | some q=>
  obtain⟨n,hn⟩:=J4 X M hc
  exact XK X M (n:=n) (by simp only[ZI,hn _ (Nat.le_refl n)])
noncomputable def Zfw (c:Zg) (K:List Nat) (st:St):Option (Ex×St):=lim fun n=>UR (ZI (Qt X M n) M n c) K n st
theorem ZcH (c:Zg) (K:List Nat) (st:St):Zwg fun n=>UR (ZI (Qt X M n) M n c) K n st:=fun n r hr=>
 Zio (fun _ _ h=>ZkR (Zji X M n) (Nat.le_succ n) c _ _ h) K n (n+1) st r (Nat.le_succ n) hr
theorem Zt9 (c:Zg) (st:St):Q1 X M (.loop c) st=Zfw X M c (Zhc st.sl) st:=by
 simp only[Q1,Zfw,ZI]
theorem Zsq {c:Zg} {K:List Nat} {st st' : St} (h:Q1 X M c (Uu K st)=some (.normal,st')) :
  Zfw X M c K st=Zfw X M c K st':=by
 obtain⟨n,hn⟩:=J4 X M h
 cases hl:Zfw X M c K st' with
 | none=>
  refine Vw fun k=>?_
  cases hk:UR (ZI (Qt X M k) M k c) K k st with
  | none=>rfl
  | some q=>
   have h1:=(ZcH X M c K st).le hk (show k≤max k n+1 by omega)
   simp only[UR] at h1
   rw[hn (max k n+1) (by omega)] at h1
   simp only[] at h1
   have h2:=Zio (fun _ _ h=>h) K (max k n) (max k n+1) st' q (Nat.le_succ _) h1
   rw[show Zfw X M c K st'=some q from Zhe (ZcH X M c K st') h2] at hl
   cases hl
 | some q=>
  obtain⟨m,hm⟩:=Zfv hl
  refine Zhe (ZcH X M c K st) (n:=max n m+1) ?_
  simp only[UR,hn (max n m+1) (by omega)]
  exact Zio (fun _ _ h=>ZkR (Zcp X M (show m≤max n m+1 by omega)) (show m≤max n m+1 by omega) c _ _ h) K m (max n m) st' q (by omega) hm
theorem ZmQ {c:Zg} {K:List Nat} {st st' : St} {e:Ex} (he:e≠.normal) (h:Q1 X M c (Uu K st)=some (e,st')) :
  Zfw X M c K st=some (e,st'):=by
 obtain⟨n,hn⟩:=J4 X M h
 refine Zhe (ZcH X M c K st) (n:=n+1) ?_
 simp only[UR,hn (n+1) (by omega)]
 cases e with
 | normal=>exact absurd rfl he
 | exit id=>rfl
 | ret=>rfl
theorem Zx5 {f:Nat} {as:List AV} {h:List Zl} {fn:ZR} {r:AV×List Zl} (hx:X f=some (.text fn))
  (hl:as.length≤fn.nt) (hr:Za9 h.length fn.res (Q1 X M fn.body { sl:=WZ 0 as,hp:=V5 0 h,nx:=h.length,m:=h.length })=some r) :
  Zk X M f as h=some r:=by
 cases hv:Q1 X M fn.body { sl:=WZ 0 as,hp:=V5 0 h,nx:=h.length,m:=h.length } with
 | none=>rw[hv] at hr;simp[Za9] at hr
 | some q=>
  rw[hv] at hr
  obtain⟨n,hn⟩:=J4 X M hv
  refine Zhe (ZcG X M f as h) (n:=n+1) ?_
  simp only[Qt,hx,Zer,Zim,hl,if_true,hn n (Nat.le_refl n)]
  exact hr
theorem Jd {f:Nat} {as:List AV} {h:List Zl} {p:List AV→List Zl→Option (AV×List Zl)} {r:AV×List Zl} (hx:X f=some (.prim p)) (hp:p as h=some r) :
  Zk X M f as h=some r:=
 Zhe (ZcG X M f as h) (n:=1) (by simp only[Qt,hx,Zer,hp])
end
section
variable (P:Program)
def Uv (nt:Nat):Code→Option Zg
 | .skip=>some .skip
 | .region _ ops draw=>bnd (QU (ZjZ P nt ops.toList) ops.toList) fun os=>if draw then (if ZmN ops os then some (.region ops.toList.length (some (Zcl ops os)) os) else some .stuck) else some (.region ops.toList.length none os)
 | .seq a b=>bnd (Uv nt a) fun a=>bnd (Uv nt b) fun b=>some (.seq a b)
 | .cond c a b=>bnd (Z8 c) fun c=>bnd (Uv nt a) fun a=>bnd (Uv nt b) fun b=>some (.cond c a b)
 | .block id c=>bnd (Uv nt c) fun c=>some (.block id c)
 | .loop c=>bnd (Uv nt c) fun c=>some (.loop c)
 | .exit id=>some (.exit id)
 | .ret=>some .ret
 | _=>some .stuck
def Zf4:COp→COp
 | .buildDp s _ xs=>.buildSl s xs
 | .asgDp s _ x=>.assign (some s) x
 | .appDp s b flat x y=>.append s b false flat x y
 | c=>c
def Zjk:List CO→List CO
 | []=>[]
 | o :: r => { o with op:=Zf4 o.op } :: Zjk r
def Zua:Option (List (Nat×Nat))→List CO→List CO
 | none,ops=>Zjk ops
 | some _,ops=>ops
def Y2:Zg→Zg
 | .keep _ c=>Y2 c
 | .seq a b=>.seq (Y2 a) (Y2 b)
 | .cond c a b=>.cond c (Y2 a) (Y2 b)
 | .block id c=>.block id (Y2 c)
 | .loop c=>.loop (Y2 c)
 | .region n d ops=>.region n d (Zua d ops)
 | .link _ _ _ c=>Y2 c
 | .melt c=>Y2 c
 | .skip=>.skip
 | .exit id=>.exit id
 | .ret=>.ret
 | .stuck=>.stuck
def Zjl (cf:ZR):ZR := { nt:=cf.nt,res:=cf.res,body:=Y2 cf.body }
def cRes:ResultVar→Option Zoh
 | .tmp t=>some (.tmp t)
 | .cell a t=>bnd (ZdB P t) fun g=>some (.cell a g (P.cellsOf t))
def cFun (fn:Func):Option ZR:=bnd fn.body fun c=>bnd (Uv P fn.ntmps c) fun b=>bnd (QU (cRes P) fn.results.toList) fun rs=>some { nt:=fn.ntmps,res:=rs,body:=b }
end
end Go.Abs
