/- The abstract semantics: regions,codes,bodies,calls. Own text. -/
import Derived.Test.YtpobhkoombldlaaGreatAbsOps
set_option linter.unusedVariables false
set_option linter.unusedSimpArgs false
namespace Go.Abs
open Go
inductive Ex where
 | normal
 | exit (id:Nat)
 | ret
def Q7 (lo hi:Nat):Hp→Bool
 | []=>true
 | (k,_) :: r=>decide (lo≤k)&&decide (k<hi)&&Q7 (k+1) hi r
def XF (gone:List Nat) (sl:Sl):Sl:=match gone with
 | []=>sl
 | _=>ZkO (kill gone) sl
def Wj (gone:List Nat) (hp:Hp):Hp:=match gone with
 | []=>hp
 | _=>ZkO (Yw gone) hp
def Zx (sl:Sl) (dst:Option Nat) (v:AV):Sl:=match dst with
 | some t=>ins sl t v
 | none=>sl
def Zf.on (e:Zf) (dst:Option Nat) (sl:Sl) (hp:Hp):Sl×Hp:=
 (Zx (XF e.gone sl) dst e.eff.val,e.eff.on (Wj e.gone hp))
def VD (base:Nat) (dst:Option Nat) (sl:Sl) (hp:Hp) (e:Option Zf):Option (Sl×Hp):=
 bnd e fun e=>if Q7 base (base+64) e.eff.adds then some (e.on dst sl hp) else none
def Ziw (want:Bool):AV→Option Bool
 | .d (.bool b)=>some (b==want)
 | .tup []=>some false
 | _=>none
def Qa (sl:Sl):Option (Nat×Bool)→Option Bool
 | none=>some true
 | some q=>Ziw q.2 (gs sl q.1)
inductive Ze where
 | skip
 | region (n:Nat) (draw:Option (List (Nat×Nat))) (ops:List CO)
 | seq (a b:Ze)
 | cond (c:Opd) (a b:Ze)
 | block (id:Nat) (c:Ze)
 | loop (c:Ze)
 | exit (id:Nat)
 | ret
 | keep (K:List Nat) (c:Ze)
 | stuck
 | link (id:Nat) (i:Opd) (j:Nat) (c:Ze)
 | melt (c:Ze)
inductive ZrS where
 | tmp (t:Nat)
 | cell (a:Nat) (g:Bool) (s:Nat)
structure Zz where
 nt:Nat
 res:List ZrS
 body:Ze
def Zmr (x:Option Opd):List Opd:=match x with
 | some y=>[y]
 | none=>[]
def ZP:COp→List Opd
 | .move x=>[x]
 | .assign _ x=>[x]
 | .pick c a b=>[c,a,b]
 | .alloc _ _=>[]
 | .box x=>[x]
 | .build _ ps=>ps.map fun q=>q.2.2
 | .buildSl _ xs=>xs
 | .load _ _ a=>[a]
 | .store _ _ a x=>[a,x]
 | .nilCheck x=>[x]
 | .bin _ _ x y=>[x,y]
 | .un _ x=>[x]
 | .eqA _ _ x y=>[x,y]
 | .convI _ x=>[x]
 | .convS x=>[x]
 | .fn _ cs=>cs
 | .make _ _ _ l c=>[l,c]
 | .slice _ x lo hi=>x :: (Zmr lo++Zmr hi)
 | .sliceS x lo hi=>x :: (Zmr lo++Zmr hi)
 | .slice0 x hi mx=>[x,hi,mx]
 | .shift _ x=>[x]
 | .part _ _ _ x=>[x]
 | .iaS _ x i=>[x,i]
 | .iaA _ _ x i=>[x,i]
 | .ixS x i=>[x,i]
 | .ixA _ _ _ x i=>[x,i]
 | .nth _ x=>[x]
 | .len x=>[x]
 | .lenS x=>[x]
 | .append _ _ _ _ x y=>[x,y]
 | .min x y=>[x,y]
 | .max x y=>[x,y]
 | .call f as=>f :: as
 | .slice3 _ x lo hi mx=>[x,lo,hi,mx]
 | .clear _ _ x=>[x]
 | .stuck=>[]
 | .buildDp _ _ xs=>xs
 | .appDp _ _ _ x y=>[x,y]
 | .asgDp _ _ x=>[x]
def Zky:COp→Bool
 | .store _ _ _ _=>true
 | _=>false
def isApp:COp→Bool
 | .append _ _ _ _ _ _=>true
 | _=>false
def Zqf (c:COp):Bool:=Zky c || isApp c
def CO.starts (o:CO):Bool:=Zky o.op || o.tl
def Z2 (os:List CO) (i:Nat):Bool:=match os[i]? with
 | some o=>CO.starts o
 | none=>false
def ZeV:Opd→List Nat
 | .t n=>[n]
 | _=>[]
def Zqg:Option (Nat×Bool)→List Nat
 | some q=>[q.1]
 | none=>[]
def Wh (o:CO):List Nat:=(ZP o.op).flatMap ZeV++Zqg o.guard
def Q1:Option Nat→List Nat→Bool
 | some d,l=>!l.contains d
 | none,_=>true
def Zdk:Option Nat→Option Nat→Bool
 | some d,some e=>d != e
 | _,_=>true
def Yc (a b:CO):Bool:=Q1 a.dst (Wh b)&&Zdk a.dst b.dst&&Q1 b.dst (Wh a)
def Wk:Opd→Bool
 | .v a=>(ZH a).isEmpty&&!ZsA a
 | _=>true
def Zud (os:List CO) (j i:Nat):Bool:=match os[j]?,os[i]? with
 | some a,some b=>Yc a b
 | _,_=>false
def US:COp→Bool
 | .load _ _ _=>false
 | .store _ _ _ _=>false
 | .slice _ _ _ _=>false
 | .slice0 _ _ _=>false
 | .iaS _ _ _=>false
 | .len _=>false
 | .append _ _ _ _ _ _=>false
 | .buildSl _ _=>false
 | .buildDp _ _ _=>false
 | .appDp _ _ _ _ _=>false
 | .asgDp _ _ _=>false
 | .call _ _=>false
 | .slice3 _ _ _ _ _=>false
 | .clear _ _ _=>false
 | _=>true
def ZbW:COp→Bool
 | .load _ _ _=>true
 | .slice _ _ _ _=>true
 | .slice0 _ _ _=>true
 | .iaS _ _ _=>true
 | .len _=>true
 | _=>false
def Zxm:COp→Bool
 | .clear _ _ _=>false
 | .store _ _ _ _=>false
 | .append _ _ _ _ _ _=>false
 | .buildSl _ _=>false
 | .buildDp _ _ _=>false
 | .appDp _ _ _ _ _=>false
 | .asgDp _ _ _=>false
 | .call _ _=>false
 | _=>true
def Zbz (os:List CO) (k:Nat):Option Nat:=match os[k]? with
 | some o=>o.dst
 | none=>none
def Zue (os:List CO) (k:Nat):List Nat:=match os[k]? with
 | some o=>Wh o
 | none=>[]
def ZeW (os:List CO) (k:Nat):Bool:=(List.range os.length).all fun q=>decide (q<k) || Q1 (Zbz os q) (Zue os k)
def Wo:COp→Bool
 | .move _=>true
 | _=>false
def Zix:COp→Bool
 | .append _ _ _ _ _ _=>true
 | .buildSl _ _=>true
 | _=>false
def ZdM:COp→Bool
 | .call (.f _) _=>true
 | _=>false
def Znu:COp→List Opd
 | .call _ as=>as
 | _=>[]
def Zxn:COp→Bool
 | .alloc _ _=>false
 | .box _=>false
 | .assign _ _=>false
 | .make _ _ _ _ _=>false
 | .fn _ _=>false
 | _=>true
def Zs4:COp→Bool
 | .buildSl _ _=>true
 | _=>false
def Zjw:AV→Bool
 | .d _=>true
 | .nil=>true
 | .nilp=>true
 | .nili=>true
 | _=>false
def ZeA:List AV→Bool
 | []=>true
 | c :: r=>Zjw c&&ZeA r
def Zpi:COp→Bool
 | .alloc _ cs=>ZeA cs
 | _=>false
def Zqh (c:COp):Bool:=ZbW c || Zs4 c || (US c&&Zxn c) || Zpi c
def Zms:COp→Bool
 | .alloc _ cs=>ZeA cs
 | .buildSl _ _=>true
 | .load _ _ _=>true
 | .nilCheck _=>true
 | .bin _ _ _ _=>true
 | .un _ _=>true
 | .convI _ _=>true
 | .shift _ _=>true
 | .iaS _ _ _=>true
 | .slice _ _ _ _=>true
 | .len _=>true
 | .sliceS _ _ _=>true
 | .lenS _=>true
 | _=>false
def ZCk:Option Nat→Bool
 | some _=>true
 | none=>false
def ZoG (os:List CO) (k:Nat):Bool:=ZCk (Zbz os k)&&(List.range os.length).all fun q=>q==k || Zdk (Zbz os q) (Zbz os k)
def Zmt (os:List CO) (j i:Nat):Bool:=ZeW os j&&ZeW os i
def ZAj (os:List CO) (j i:Nat) (a b:COp):Bool:=
 Zxm b || (Zqf b&&(US a || (!Wo a&&ZbW a&&Zmt os j i))) || (Wo a&&(Zix b || ZoG os j)) || (!Wo a&&ZdM b&&Zqh a&&Zmt os j i&&ZoG os j)
def ZAk (os:List CO) (j i:Nat) (a b:COp):Bool:=(Wo b&&ZoG os i) || (!Wo b&&ZdM a&&Zms b&&Zmt os j i&&ZoG os i)
def Zuf (os:List CO) (j i:Nat):Bool:=match os[j]?,os[i]? with
 | some a,some b=>if Z2 os j then !Z2 os i&&ZAk os j i a.op b.op else !Z2 os i || ZAj os j i a.op b.op
 | _,_=>false
def Ziy (os:List CO) (j i:Nat):Option (Nat×Nat):=match os[j]?,os[i]? with
 | some a,some b=>if Z2 os j then (if Wo b.op || ZdM a.op then some (i,j) else none) else
   if Z2 os i&&(if Zqf b.op then !(US a.op) else if Wo a.op then !(Zix b.op) else ZdM b.op) then some (j,i) else none
 | _,_=>none
def optP:Option (Nat×Nat)→List (Nat×Nat)
 | some p=>[p]
 | none=>[]
def Zgr (ops:Array Oper) (os:List CO):List (Nat×Nat):=
 (List.range ops.size).flatMap fun i=>(List.range i).flatMap fun j=>if Zlx ops 6 i j then [] else optP (Ziy os j i)
def Zqi (ops:Array Oper) (os:List CO):Bool:=
 (List.range ops.size).all (fun i=>(UG ops i).all fun e=>decide (e<i)) &&
 (List.range ops.size).all (fun i=>(List.range i).all fun j=>(UG ops i).contains j || Zud os j i) &&
 (List.range ops.size).all (fun i=>(List.range i).all fun j=>Zlx ops 6 i j || Zuf os j i) &&
 os.all (fun o=>(ZP o.op).all Wk)
def Zgs (id:Nat):AV→Bool
 | .d _=>true
 | .pim _=>true
 | .nil=>true
 | .ptr k _=>k != id
 | .prow k _ _ _=>k != id
 | .own k=>k != id
 | .ownv k _ _=>k != id
 | .nilp=>true
 | .nili=>true
 | .tup []=>true
 | _=>false
def okC:AV→Bool
 | .d _=>true
 | .pim _=>true
 | .nil=>true
 | .ptr _ _=>true
 | .prow _ _ _ _=>true
 | .own _=>true
 | .ownv _ _ _=>true
 | .nilp=>true
 | .nili=>true
 | _=>false
def Zug:List AV→Bool
 | []=>true
 | v :: r=>okC v&&Zug r
def okV:AV→Bool
 | .agg cs=>Zug cs
 | .tup []=>true
 | v=>okC v
def okL (sl:Sl):List Opd→Bool
 | []=>true
 | x :: r=>okV (evO sl x)&&okL sl r
def okD (sl:Sl):Option Nat→Bool
 | some t=>okV (gs sl t)
 | none=>true
def Ug:AV→Option Nat
 | .ptr k _=>some k
 | .prow k _ _ _=>some k
 | _=>none
def X0 (sl:Sl) (id:Nat):List Opd→Bool
 | []=>true
 | x :: r=>Zgs id (evO sl x)&&X0 sl id r
def Ziz (sl:Sl) (a:COp):Option Nat→Bool
 | some id=>X0 sl id (ZP a)
 | none=>false
def Zgt (sl:Sl) (xs:List Opd):AV→Bool
 | .ptr k _=>X0 sl k xs
 | .prow _ _ _ _=>false
 | _=>true
def Zjx (sl:Sl) (xs:List Opd):List Opd→Bool
 | []=>true
 | y :: r=>Zgt sl xs (evO sl y)&&Zjx sl xs r
def ZaQ (sl:Sl) (a:COp):AV→Bool
 | .nil=>true
 | .tup []=>true
 | .own k=>X0 sl k (ZP a)
 | .ownv k _ _=>X0 sl k (ZP a)
 | .sub k _=>X0 sl k (ZP a)
 | _=>false
def seenSrc (sl:Sl) (a:COp):AV→Bool
 | .own k=>X0 sl k (ZP a)
 | v=>okV v
def Zbu (sl:Sl) (d:Option Nat):COp→COp→Bool
 | .move _,_=>okD sl d
 | a,.store _ _ x _=>Ziz sl a (Ug (evO sl x))
 | a,.append _ _ _ flat x y=>ZaQ sl a (evO sl x)&&(flat || seenSrc sl a (evO sl y))
 | a,.call _ as=>okL sl (ZP a)&&(okD sl d&&(okL sl as&&Zjx sl (ZP a) as))
 | _,_=>false
def Zmu (os:List CO) (sl:Sl) (p:Nat×Nat):Bool:=match os[p.1]?,os[p.2]? with
 | some a,some b=>Zbu sl a.dst a.op b.op
 | _,_=>false
def ZaR (os:List CO) (sl:Sl):List (Nat×Nat)→Bool
 | []=>true
 | p :: r=>Zmu os sl p&&ZaR os sl r
section
variable (C:Orc) (M:Zu)
noncomputable def ZhY (nx:Nat):Nat→List CO→Sl→Hp→Option (Sl×Hp)
 | _,[],sl,hp=>some (sl,hp)
 | i,o :: rest,sl,hp=>bnd (Qa sl o.guard) fun b=>
   if b then bnd (VD (nx+64*i) o.dst sl hp (vop C M sl hp (nx+64*i) o.op)) fun r=>ZhY nx (i+1) rest r.1 r.2
   else ZhY nx (i+1) rest (Zx sl o.dst (.tup [])) hp
def ZiA (c:Zf):List Nat→Hp→List Nat→List Nat→Option Zf
 | [],[],[],[]=>some c
 | _,_,_,_=>none
def Zgu (e:Option Zf):Option Zf:=bnd e fun c=>ZiA c c.gone c.eff.sets c.eff.dels c.eff.frz
noncomputable def UO (nx i:Nat) (tail:Bool) (o:COp) (sl:Sl) (hp:Hp):Option Zf:=
 if tail then vop C M sl hp (nx+64*i) o else Zgu (vop C M sl hp (nx+64*i) o)
noncomputable def Zai (nx:Nat):Nat→Bool→List CO→Sl→Hp→Option (Sl×Hp)
 | _,_,[],sl,hp=>some (sl,hp)
 | i,t,o :: rest,sl,hp=>bnd (Qa sl o.guard) fun b=>
   if b then bnd (VD (nx+64*i) o.dst sl hp (UO C M nx i (CO.starts o) o.op sl hp)) fun r=>Zai nx (i+1) t rest r.1 r.2
   else Zai nx (i+1) t rest (Zx sl o.dst (.tup [])) hp
def Zlz {α:Type}:List (Nat×α)→List Nat
 | []=>[]
 | (k,_) :: r=>k :: Zlz r
def only {α:Type} (K:List Nat):List (Nat×α)→List (Nat×α)
 | []=>[]
 | (k,v) :: r=>if K.contains k then (k,v) :: only K r else only K r
def UB:Nat→List Zt→Hp
 | _,[]=>[]
 | k,o :: r=>UB (k+1) r++[(k,o)]
def Zqj:Sl→List Nat
 | []=>[]
 | (_,v) :: r=>ZH v++Zqj r
def ZbX:Option Zt→Bool
 | some _=>true
 | none=>false
def Zhr (hp:Hp) (ids:List Nat) (i:Nat):Bool:=ids.contains i&&ZbX (lkp hp i)
def Zjy (hp:Hp) (ids:List Nat):List Nat→List Nat
 | []=>[]
 | i :: r=>if Zhr hp ids i then Zjy hp ids r else i :: Zjy hp ids r
def ZhZ (hp:Hp) (ids:List Nat) (v:AV):AV:=ren (UF ids) (kill (Zjy hp ids (ZH v)) v)
def Zjz (hp:Hp) (ids:List Nat) (o:Zt):Zt:=ZoF (UF ids) (Yw (Zjy hp ids (Zew o)) o)
def Zxo:Option Zt→List Nat
 | some o=>Zew o
 | none=>[]
def UJ (hp:Hp):List Nat→List Nat
 | []=>[]
 | id :: r=>Zxo (lkp hp id)++UJ hp r
def J6 (K:List Nat) (st:St):St:=
 let sl:=only K st.sl
 let ids:=Q0 st.hp (XE st.hp) (Zqj sl++UJ st.hp (List.range st.m)) (List.range st.m)
 { sl:=ZkO (ZhZ st.hp ids) sl,hp:=UB 0 ((Zgh st.hp ids).map (Zjz st.hp ids)),nx:=ids.length,m:=st.m }
def Zaj (f:St→Option (Ex×St)) (K:List Nat):Nat→St→Option (Ex×St)
 | 0,_=>none
 | n+1,st=>match f (J6 K st) with
  | some (.normal,st')=>Zaj f K n st'
  | r=>r
def andThen (r:Option (Ex×St)) (k:St→Option (Ex×St)):Option (Ex×St):=match r with
 | some (.normal,st)=>k st
 | r=>r
def ZjA (v:AV) (a b:Option (Ex×St)):Option (Ex×St):=match v with
 | .d (.bool t)=>if t then a else b
 | _=>none
def ZiZ (id:Nat) (r:Option (Ex×St)):Option (Ex×St):=match r with
 | some (.exit j,st)=>if j=id then some (.normal,st) else some (.exit j,st)
 | r=>r
def Zqk (ops:List CO) (ps:List (Nat×Nat)) (r:Option (Sl×Hp)):Option (Sl×Hp):=bnd r fun r=>if ZaR ops r.1 ps then some r else none
def Zmv (m nx:Nat) (r:Option (Sl×Hp)):Option (Ex×St):=bnd r fun r=>some (.normal,{ sl:=r.1,hp:=r.2,nx:=nx,m:=m })
def Zom (K:List Nat) (r:Option (Ex×St)):Option (Ex×St):=match r with
 | some q=>some (q.1,{ q.2 with sl:=only K q.2.sl })
 | none=>none
def Zyn (nx n j:Nat):Option Zt→Option Zt
 | some (.deep s k xs _)=>bnd (Zmj xs n j) fun _=>some (.deep s k xs (some (nx,n,j)))
 | _=>none
def Zhs (id:Nat) (i:Opd) (j:Nat) (st:St):Option St:=bnd (idx (evO st.sl i)) fun n=>if 0≤n then bnd (Zyn st.nx n.toNat j (lkp st.hp id)) fun o=>some { st with hp:=ins st.hp id o,nx:=st.nx+64 } else none
def Zuh (st:St):St := { st with hp:=ZkO Zgl st.hp }
noncomputable def ZK (N:Nat):Ze→St→Option (Ex×St)
 | .skip,st=>some (.normal,st)
 | .region n none ops,st=>Zmv st.m (st.nx+64*n) (ZhY C M st.nx 0 ops st.sl st.hp)
 | .region n (some ps) ops,st=>Zmv st.m (st.nx+64*n) (Zqk ops ps (Zai C M st.nx 0 false ops st.sl st.hp))
 | .seq a b,st=>andThen (ZK N a st) (ZK N b)
 | .cond c a b,st=>ZjA (evO st.sl c) (ZK N a st) (ZK N b st)
 | .block id c,st=>ZiZ id (ZK N c st)
 | .loop c,st=>Zaj (ZK N c) (Zlz st.sl) N st
 | .exit id,st=>some (.exit id,st)
 | .ret,st=>some (.ret,st)
 | .keep K c,st=>Zom K (ZK N c st)
 | .stuck,_=>none
 | .link id i j c,st=>bnd (Zhs id i j st) (ZK N c)
 | .melt c,st=>ZK N c (Zuh st)
def ZoH (st:St):ZrS→Option AV
 | .tmp t=>some (gs st.sl t)
 | .cell a g s=>Zaf st.hp g s (gs st.sl a)
def Wp (m:Nat) (hp:Hp) (v:AV):AV×List Zt:=
 let ids:=Q0 hp (XE hp) (ZH v++UJ hp (List.range m)) (List.range m)
 (ZhZ hp ids v,(Zgh hp ids).map (Zjz hp ids))
def Zyo:AV→Bool
 | .tup _=>true
 | _=>false
def ZlA:List AV→Bool
 | []=>false
 | v :: r=>Zyo v || ZlA r
def Zff:List AV→AV
 | [v]=>v
 | vs=>if ZlA vs then .junk else .tup vs
def UT:Nat→List AV→Sl
 | _,[]=>[]
 | k,v :: r=>UT (k+1) r++[(k,v)]
def ZeX (m:Nat) (rs:List ZrS) (r:Option (Ex×St)):Option (AV×List Zt):=match r with
 | some (.normal,st)=>bnd (QV (ZoH st) rs) fun vs=>some (Wp m st.hp (Zff vs))
 | some (.ret,st)=>bnd (QV (ZoH st) rs) fun vs=>some (Wp m st.hp (Zff vs))
 | _=>none
noncomputable def Zmw (N:Nat) (fn:Zz) (as:List AV) (h:List Zt):Option (AV×List Zt):=
 if as.length≤fn.nt then ZeX h.length fn.res (ZK C M N fn.body { sl:=UT 0 as,hp:=UB 0 h,nx:=h.length,m:=h.length }) else none
end
inductive Fn where
 | text (f:Zz)
 | prim (p:List AV→List Zt→Option (AV×List Zt))
abbrev Fns:=Nat→Option Fn
noncomputable def ZiB (C:Orc) (M:Zu) (N:Nat) (as:List AV) (h:List Zt):Option Fn→Option (AV×List Zt)
 | some (.text f)=>Zmw C M N f as h
 | some (.prim p)=>p as h
 | none=>none
noncomputable def Qu (X:Fns) (M:Zu):Nat→Orc
 | 0,_,_,_=>none
 | n+1,f,as,h=>ZiB (Qu X M n) M n as h (X f)
open Classical in
noncomputable def lim {α:Type} (x:Nat→Option α):Option α:=if h:∃ r,∃ n,x n=some r then some h.choose else none
def Zzh {α:Type} (x:Nat→Option α):Prop:=∀ n r,x n=some r→x (n+1)=some r
theorem Zzh.le {α:Type} {x:Nat→Option α} (h:Zzh x) {n m:Nat} {r:α} (hr:x n=some r) (hnm:n≤m):x m=some r:=by
 induction hnm with
 | refl=>exact hr
 | step _ ih=>exact h _ _ ih
theorem ZlB {α:Type} {x:Nat→Option α} (h:Zzh x) {n:Nat} {r:α} (hr:x n=some r):lim x=some r:=by
 have he:∃ r,∃ n,x n=some r:=⟨r,n,hr⟩
 unfold lim
 rw[dif_pos he]
 obtain⟨m,hm⟩:=he.choose_spec
 have h1:=h.le hm (Nat.le_max_left m n)
 have h2:=h.le hr (Nat.le_max_right m n)
 rw[h1] at h2
 exact h2
theorem ZjB {α:Type} {x:Nat→Option α} {r:α} (hr:lim x=some r):∃ n,x n=some r:=by
 unfold lim at hr
 split at hr
 ·rename_i h
  obtain⟨n,hn⟩:=h.choose_spec
  exact⟨n,by rw[hn];exact hr⟩
 ·cases hr
def Orc.le (C C' : Orc):Prop:=∀ f as h r,C f as h=some r→C' f as h=some r
section
variable {M:Zu} {C C' : Orc}
theorem ZeY {α β:Type} {x x' : Option α} {f f' : α→Option β} {r:β} (hx:∀ a,x=some a→x'=some a) (hf:∀ a,f a=some r→f' a=some r) (h:bnd x f=some r):bnd x' f'=some r:=by
 obtain⟨a,h1,h2⟩:=Za h
 rw[hx a h1];exact hf a h2
theorem ZAl (h:C.le C') {m:Nat→Bool} {hp:Hp} {base f:Nat} {avs:List AV} {r:Zf}
  (hr:Zfd C m hp base f avs=some r):Zfd C' m hp base f avs=some r:=by
 unfold Zfd at hr ⊢
 refine ZeY (fun _ h=>h) (fun as hr=>?_) hr
 unfold ZgR at hr ⊢
 by_cases hc:(as.flatMap ZH).all (Q0 hp (XE hp) (as.flatMap ZH) []).contains∧¬(V0 avs as).any (Q0 hp (XE hp) (as.flatMap ZH) []).contains∧Zfm hp (as.flatMap Zez) (Q0 hp (XE hp) (as.flatMap ZH) [])=true
 ·rw[if_pos hc] at hr ⊢
  exact ZeY (fun q hq=>h _ _ _ _ hq) (fun _ h=>h) hr
 ·rw[if_neg hc] at hr;cases hr
theorem Zui (h:C.le C') {sl:Sl} {hp:Hp} {base:Nat} {o:COp} {r:Zf} (hr:vop C M sl hp base o=some r) :
  vop C' M sl hp base o=some r:=by
 cases o with
 | call f as=>
  simp only[vop] at hr ⊢
  cases hg:evO sl f<;>simp only[hg,Zgm] at hr ⊢ <;> first | exact ZAl h hr | exact hr
 | _=>exact hr
theorem Zuj (h:C.le C') (nx:Nat):∀ (l:List CO) (i:Nat) (sl:Sl) (hp:Hp) (r:Sl×Hp),
  ZhY C M nx i l sl hp=some r→ZhY C' M nx i l sl hp=some r:=by
 intro l
 induction l with
 | nil=>intro i sl hp r hr;exact hr
 | cons o rest ih=>
  intro i sl hp r hr
  simp only[ZhY] at hr ⊢
  refine ZeY (fun _ h=>h) (fun b hr=>?_) hr
  cases b
  ·simp only[Bool.false_eq_true,if_false] at hr ⊢
   exact ih _ _ _ _ hr
  ·simp only[if_true] at hr ⊢
   refine ZeY (fun q hq=>?_) (fun q hq=>ih _ _ _ _ hq) hr
   unfold VD at hq ⊢
   exact ZeY (fun e he=>Zui h he) (fun _ h=>h) hq
theorem Zyp (h:C.le C') {nx i:Nat} {t:Bool} {o:COp} {sl:Sl} {hp:Hp} {e:Zf} (he:UO C M nx i t o sl hp=some e) :
  UO C' M nx i t o sl hp=some e:=by
 unfold UO at he ⊢
 cases t
 ·simp only[Bool.false_eq_true,if_false,Zgu] at he ⊢
  exact ZeY (fun _ hv=>Zui h hv) (fun _ h=>h) he
 ·simp only[if_true] at he ⊢
  exact Zui h he
theorem Zmx (h:C.le C') (nx:Nat):∀ (l:List CO) (i:Nat) (t:Bool) (sl:Sl) (hp:Hp) (r:Sl×Hp),
  Zai C M nx i t l sl hp=some r→Zai C' M nx i t l sl hp=some r:=by
 intro l
 induction l with
 | nil=>intro i t sl hp r hr;exact hr
 | cons o rest ih=>
  intro i t sl hp r hr
  simp only[Zai] at hr ⊢
  refine ZeY (fun _ h=>h) (fun b hr=>?_) hr
  cases b
  ·simp only[Bool.false_eq_true,if_false] at hr ⊢
   exact ih _ _ _ _ _ hr
  ·simp only[if_true] at hr ⊢
   refine ZeY (fun q hq=>?_) (fun q hq=>ih _ _ _ _ _ hq) hr
   unfold VD at hq ⊢
   exact ZeY (fun e he=>Zyp h he) (fun _ h=>h) hq
theorem Zmy {f g:St→Option (Ex×St)} (h:∀ st r,f st=some r→g st=some r) (K:List Nat) :
  ∀ (n m:Nat) (st:St) (r:Ex×St),n≤m→Zaj f K n st=some r→Zaj g K m st=some r:=by
 intro n
 induction n with
 | zero=>intro m st r _ hr;simp[Zaj] at hr
 | succ n ih=>
  intro m st r hm hr
  cases m with
  | zero=>omega
  | succ m=>
   simp only[Zaj] at hr ⊢
   cases hf:f (J6 K st) with
   | none=>simp[hf] at hr
   | some q=>
    rw[hf] at hr
    rw[h _ _ hf]
    obtain⟨e,st'⟩:=q
    cases e with
    | normal=>exact ih m st' r (by omega) hr
    | exit id=>exact hr
    | ret=>exact hr
theorem Zpj (h:C.le C') {N N' : Nat} (hN:N≤N'):∀ (c:Ze) (st:St) (r:Ex×St),
  ZK C M N c st=some r→ZK C' M N' c st=some r:=by
 intro c
 induction c with
 | skip=>intro st r hr;simpa [ZK] using hr
 | region n draw ops=>
  intro st r hr
  cases draw
  ·simp only[ZK,Zmv] at hr ⊢
   exact ZeY (fun q hq=>Zuj h _ _ _ _ _ _ hq) (fun _ h=>h) hr
  ·simp only[ZK,Zmv,Zqk] at hr ⊢
   exact ZeY (fun q hq=>ZeY (fun q hq=>Zmx h _ _ _ _ _ _ _ hq) (fun _ h=>h) hq) (fun _ h=>h) hr
 | seq a b iha ihb=>
  intro st r hr
  simp only[ZK] at hr ⊢
  cases ha:ZK C M N a st with
  | none=>simp[ha,andThen] at hr
  | some q=>
   rw[ha] at hr
   rw[iha _ _ ha]
   obtain⟨e,st'⟩:=q
   cases e with
   | normal=>exact ihb _ _ hr
   | exit id=>exact hr
   | ret=>exact hr
 | cond c a b iha ihb=>
  intro st r hr
  simp only[ZK,ZjA] at hr ⊢
  split at hr
  ·rename_i t ht
   cases t
   ·simp only[Bool.false_eq_true,if_false] at hr ⊢;exact ihb _ _ hr
   ·simp only[if_true] at hr ⊢;exact iha _ _ hr
  ·cases hr
 | block id c ih=>
  intro st r hr
  simp only[ZK] at hr ⊢
  cases hc:ZK C M N c st with
  | none=>simp[hc,ZiZ] at hr
  | some q=>rw[hc] at hr;rw[ih _ _ hc];exact hr
 | loop c ih=>
  intro st r hr
  simp only[ZK] at hr ⊢
  exact Zmy ih _ _ _ _ _ hN hr
 | exit id=>intro st r hr;simpa [ZK] using hr
 | ret=>intro st r hr;simpa [ZK] using hr
 | keep K c ih=>
  intro st r hr
  simp only[ZK] at hr ⊢
  cases hc:ZK C M N c st with
  | none=>simp[hc,Zom] at hr
  | some q=>rw[hc] at hr;rw[ih _ _ hc];exact hr
 | stuck=>intro st r hr;simp[ZK] at hr
 | link id i j c ih=>
  intro st r hr
  simp only[ZK] at hr ⊢
  obtain⟨st',h1,h2⟩:=Za hr
  rw[h1,Zj]
  exact ih st' r h2
 | melt c ih=>
  intro st r hr
  simp only[ZK] at hr ⊢
  exact ih _ r hr
theorem ZAm (h:C.le C') {N N' : Nat} (hN:N≤N') {f:Zz} {as:List AV} {hh:List Zt} {r:AV×List Zt}
  (hr:Zmw C M N f as hh=some r):Zmw C' M N' f as hh=some r:=by
 unfold Zmw at hr ⊢
 by_cases hl:as.length≤f.nt
 ·rw[if_pos hl] at hr ⊢
  cases hv:ZK C M N f.body { sl:=UT 0 as,hp:=UB 0 hh,nx:=hh.length,m:=hh.length } with
  | none=>simp[hv,ZeX] at hr
  | some q=>rw[hv] at hr;rw[Zpj h hN _ _ _ hv];exact hr
 ·rw[if_neg hl] at hr;cases hr
end
section
variable (X:Fns) (M:Zu)
theorem Znv:∀ n,(Qu X M n).le (Qu X M (n+1)):=by
 intro n
 induction n with
 | zero=>intro f as h r hr;simp[Qu] at hr
 | succ n ih=>
  intro f as h r hr
  rw[Qu] at hr ⊢
  cases hf:X f with
  | none=>rw[hf] at hr;cases hr
  | some g=>
   rw[hf] at hr
   cases g with
   | text g=>exact ZAm ih (Nat.le_succ n) hr
   | prim p=>exact hr
noncomputable def Zg (f:Nat) (as:List AV) (h:List Zt):Option (AV×List Zt):=lim fun n=>Qu X M n f as h
noncomputable def Q3 (c:Ze) (st:St):Option (Ex×St):=lim fun n=>ZK (Qu X M n) M n c st
theorem ZgY (f:Nat) (as:List AV) (h:List Zt):Zzh fun n=>Qu X M n f as h:=fun n r hr=>Znv X M n f as h r hr
theorem ZiC (n:Nat):(Qu X M n).le (Zg X M):=fun f as h _ hr=>ZlB (ZgY X M f as h) hr
theorem ZlC (c:Ze) (st:St):Zzh fun n=>ZK (Qu X M n) M n c st:=fun n r hr=>Zpj (Znv X M n) (Nat.le_succ n) c st r hr
theorem Zgv {n m:Nat} (h:n≤m):(Qu X M n).le (Qu X M m):=fun f as hh _ hr=>(ZgY X M f as hh).le hr h
theorem ZvO {m:Nat→Bool} {hp:Hp} {base f:Nat} {avs:List AV} {r:Zf}
  (hr:Zfd (Zg X M) m hp base f avs=some r):∃ n,Zfd (Qu X M n) m hp base f avs=some r:=by
 unfold Zfd at hr ⊢
 obtain⟨as,has,hr⟩:=Za hr
 simp only[has,Zj]
 unfold ZgR at hr ⊢
 by_cases hc:(as.flatMap ZH).all (Q0 hp (XE hp) (as.flatMap ZH) []).contains∧¬(V0 avs as).any (Q0 hp (XE hp) (as.flatMap ZH) []).contains∧Zfm hp (as.flatMap Zez) (Q0 hp (XE hp) (as.flatMap ZH) [])=true
 ·rw[if_pos hc] at hr
  obtain⟨q,hq,hr⟩:=Za hr
  obtain⟨n,hn⟩:=ZjB hq
  refine⟨n,?_⟩
  rw[if_pos hc,hn]
  exact hr
 ·rw[if_neg hc] at hr;cases hr
theorem Znw {sl:Sl} {hp:Hp} {base:Nat} {o:COp} {r:Zf} (hr:vop (Zg X M) M sl hp base o=some r) :
  ∃ n,vop (Qu X M n) M sl hp base o=some r:=by
 cases o with
 | call f as=>
  simp only[vop] at hr ⊢
  cases hg:evO sl f<;>simp only[hg,Zgm] at hr ⊢ <;> first | exact ZvO X M hr | exact⟨0,hr⟩
 | _=>exact⟨0,hr⟩
theorem Zxp (nx:Nat):∀ (l:List CO) (i:Nat) (sl:Sl) (hp:Hp) (r:Sl×Hp),
  ZhY (Zg X M) M nx i l sl hp=some r→∃ n,ZhY (Qu X M n) M nx i l sl hp=some r:=by
 intro l
 induction l with
 | nil=>intro i sl hp r hr;exact⟨0,hr⟩
 | cons o rest ih=>
  intro i sl hp r hr
  simp only[ZhY] at hr ⊢
  obtain⟨b,hb,hr⟩:=Za hr
  simp only[hb,Zj]
  cases b
  ·simp only[Bool.false_eq_true,if_false] at hr ⊢
   exact ih _ _ _ _ hr
  ·simp only[if_true] at hr ⊢
   obtain⟨q,hq,hr⟩:=Za hr
   unfold VD at hq
   obtain⟨e,he,hq⟩:=Za hq
   obtain⟨n1,h1⟩:=Znw X M he
   obtain⟨n2,h2⟩:=ih _ _ _ _ hr
   refine⟨max n1 n2,?_⟩
   unfold VD
   rw[Zui (Zgv X M (Nat.le_max_left n1 n2)) h1,Zj,hq,Zj]
   exact Zuj (Zgv X M (Nat.le_max_right n1 n2)) _ _ _ _ _ _ h2
theorem Zxq {nx i:Nat} {t:Bool} {o:COp} {sl:Sl} {hp:Hp} {e:Zf} (he:UO (Zg X M) M nx i t o sl hp=some e) :
  ∃ n,UO (Qu X M n) M nx i t o sl hp=some e:=by
 unfold UO at he ⊢
 cases t
 ·simp only[Bool.false_eq_true,if_false,Zgu] at he ⊢
  obtain⟨e',he',h2⟩:=Za he
  obtain⟨n,hn⟩:=Znw X M he'
  exact⟨n,by rw[hn];exact h2⟩
 ·simp only[if_true] at he ⊢
  exact Znw X M he
theorem ZvP (nx:Nat):∀ (l:List CO) (i:Nat) (t:Bool) (sl:Sl) (hp:Hp) (r:Sl×Hp),
  Zai (Zg X M) M nx i t l sl hp=some r→∃ n,Zai (Qu X M n) M nx i t l sl hp=some r:=by
 intro l
 induction l with
 | nil=>intro i t sl hp r hr;exact⟨0,hr⟩
 | cons o rest ih=>
  intro i t sl hp r hr
  simp only[Zai] at hr ⊢
  obtain⟨b,hb,hr⟩:=Za hr
  simp only[hb,Zj]
  cases b
  ·simp only[Bool.false_eq_true,if_false] at hr ⊢
   exact ih _ _ _ _ _ hr
  ·simp only[if_true] at hr ⊢
   obtain⟨q,hq,hr⟩:=Za hr
   unfold VD at hq
   obtain⟨e,he,hq⟩:=Za hq
   obtain⟨n1,h1⟩:=Zxq X M he
   obtain⟨n2,h2⟩:=ih _ _ _ _ _ hr
   refine⟨max n1 n2,?_⟩
   unfold VD
   rw[Zyp (Zgv X M (Nat.le_max_left n1 n2)) h1,Zj,hq,Zj]
   exact Zmx (Zgv X M (Nat.le_max_right n1 n2)) _ _ _ _ _ _ _ h2
theorem X3 {c:Ze} {st:St} {n:Nat} {r:Ex×St} (h:ZK (Qu X M n) M n c st=some r):Q3 X M c st=some r:=
 ZlB (ZlC X M c st) h
theorem Wq {α:Type} {x:Nat→Option α} (h:∀ n,x n=none):lim x=none:=by
 cases hx:lim x with
 | none=>rfl
 | some r=>obtain⟨n,hn⟩:=ZjB hx;rw[h n] at hn;cases hn
theorem Zxr (st:St):Q3 X M .skip st=some (.normal,st):=X3 X M (n:=0) (by simp[ZK])
theorem Zxs (id:Nat) (st:St):Q3 X M (.exit id) st=some (.exit id,st):=X3 X M (n:=0) (by simp[ZK])
theorem Zzi (st:St):Q3 X M .ret st=some (.ret,st):=X3 X M (n:=0) (by simp[ZK])
theorem Zuk (n:Nat) (ops:List CO) (st:St) :
  Q3 X M (.region n none ops) st=Zmv st.m (st.nx+64*n) (ZhY (Zg X M) M st.nx 0 ops st.sl st.hp):=by
 cases h:ZhY (Zg X M) M st.nx 0 ops st.sl st.hp with
 | some r=>
  obtain⟨k,hk⟩:=Zxp X M _ _ _ _ _ _ h
  exact X3 X M (n:=k) (by simp only[ZK,hk,Zmv,Zj])
 | none=>
  refine Wq fun k=>?_
  simp only[ZK]
  cases hn:ZhY (Qu X M k) M st.nx 0 ops st.sl st.hp with
  | none=>rfl
  | some r=>rw[Zuj (ZiC X M k) _ _ _ _ _ _ hn] at h;cases h
theorem Zxt (n:Nat) (ps:List (Nat×Nat)) (ops:List CO) (st:St) :
  Q3 X M (.region n (some ps) ops) st=Zmv st.m (st.nx+64*n) (Zqk ops ps (Zai (Zg X M) M st.nx 0 false ops st.sl st.hp)):=by
 cases h:Zai (Zg X M) M st.nx 0 false ops st.sl st.hp with
 | some r=>
  obtain⟨k,hk⟩:=ZvP X M _ _ _ _ _ _ _ h
  cases hs:Zqk ops ps (some r) with
  | none=>
   refine Wq fun k'=>?_
   simp only[ZK]
   cases hn:Zai (Qu X M k') M st.nx 0 false ops st.sl st.hp with
   | none=>rfl
   | some r' =>
    have:=Zmx (ZiC X M k') _ _ _ _ _ _ _ hn
    rw[h] at this
    cases this
    rw[hs];rfl
  | some r'=>exact X3 X M (n:=k) (by simp only[ZK,hk,hs];rfl)
 | none=>
  refine Wq fun k=>?_
  simp only[ZK]
  cases hn:Zai (Qu X M k) M st.nx 0 false ops st.sl st.hp with
  | none=>rfl
  | some r=>rw[Zmx (ZiC X M k) _ _ _ _ _ _ _ hn] at h;cases h
theorem ZbY {c:Ze} {st:St} {r:Ex×St} (h:Q3 X M c st=some r):∃ n,∀ m,n≤m→ZK (Qu X M m) M m c st=some r:=by
 obtain⟨n,hn⟩:=ZjB h
 exact⟨n,fun m hm=>(ZlC X M c st).le hn hm⟩
theorem Zzj (a b:Ze) (st:St):Q3 X M (.seq a b) st=andThen (Q3 X M a st) (Q3 X M b):=by
 cases ha:Q3 X M a st with
 | none=>
  refine Wq fun n=>?_
  cases h:ZK (Qu X M n) M n a st with
  | none=>simp[ZK,h,andThen]
  | some q=>rw[X3 X M h] at ha;cases ha
 | some q=>
  obtain⟨e,st'⟩:=q
  obtain⟨n,hn⟩:=ZbY X M ha
  cases e with
  | normal=>
   simp only[andThen]
   cases hb:Q3 X M b st' with
   | none=>
    refine Wq fun k=>?_
    cases h:ZK (Qu X M k) M k (.seq a b) st with
    | none=>rfl
    | some q=>
     have h1:=(ZlC X M (.seq a b) st).le h (Nat.le_max_left k n)
     simp only[ZK,hn _ (Nat.le_max_right k n),andThen] at h1
     rw[X3 X M h1] at hb
     cases hb
   | some q=>
    obtain⟨m,hm⟩:=ZbY X M hb
    refine X3 X M (n:=max n m) ?_
    simp only[ZK,hn _ (Nat.le_max_left n m),andThen,hm _ (Nat.le_max_right n m)]
  | exit id=>exact X3 X M (n:=n) (by simp only[ZK,hn _ (Nat.le_refl n),andThen])
  | ret=>exact X3 X M (n:=n) (by simp only[ZK,hn _ (Nat.le_refl n),andThen])
theorem Zxu (c:Opd) (a b:Ze) (st:St) :
  Q3 X M (.cond c a b) st=ZjA (evO st.sl c) (Q3 X M a st) (Q3 X M b st):=by
 unfold ZjA
 split
 ·rename_i t h
  cases t
  ·simp only[Bool.false_eq_true,if_false,Q3,ZK,h,ZjA]
  ·simp only[if_true,Q3,ZK,h,ZjA]
 ·rename_i h
  refine Wq fun n=>?_
  simp only[ZK,ZjA]
theorem ZvQ (id:Nat) (c:Ze) (st:St):Q3 X M (.block id c) st=ZiZ id (Q3 X M c st):=by
 cases hc:Q3 X M c st with
 | none=>
  refine Wq fun n=>?_
  cases h:ZK (Qu X M n) M n c st with
  | none=>simp[ZK,h,ZiZ]
  | some q=>rw[X3 X M h] at hc;cases hc
 | some q=>
  obtain⟨n,hn⟩:=ZbY X M hc
  cases hb:ZiZ id (some q) with
  | none=>
   obtain⟨e,st'⟩:=q
   cases e<;>simp[ZiZ] at hb
   split at hb<;>cases hb
  | some r=>exact X3 X M (n:=n) (by simp only[ZK,hn _ (Nat.le_refl n),hb])
theorem Zxv (K:List Nat) (c:Ze) (st:St):Q3 X M (.keep K c) st=Zom K (Q3 X M c st):=by
 cases hc:Q3 X M c st with
 | none=>
  refine Wq fun n=>?_
  cases h:ZK (Qu X M n) M n c st with
  | none=>simp[ZK,h,Zom]
  | some q=>rw[X3 X M h] at hc;cases hc
 | some q=>
  obtain⟨n,hn⟩:=ZbY X M hc
  exact X3 X M (n:=n) (by simp only[ZK,hn _ (Nat.le_refl n),Zom])
theorem Zxw (id:Nat) (i:Opd) (j:Nat) (c:Ze) (st:St):Q3 X M (.link id i j c) st=bnd (Zhs id i j st) (Q3 X M c):=by
 cases hl:Zhs id i j st with
 | none=>
  refine Wq fun n=>?_
  simp only[ZK,hl];rfl
 | some st' =>
  rw[Zj]
  cases hc:Q3 X M c st' with
  | none=>
   refine Wq fun n=>?_
   cases h:ZK (Qu X M n) M n c st' with
   | none=>simp only[ZK,hl,Zj,h]
   | some q=>rw[X3 X M h] at hc;cases hc
  | some q=>
   obtain⟨n,hn⟩:=ZbY X M hc
   exact X3 X M (n:=n) (by simp only[ZK,hl,Zj,hn _ (Nat.le_refl n)])
theorem Zxx (c:Ze) (st:St):Q3 X M (.melt c) st=Q3 X M c (Zuh st):=by
 cases hc:Q3 X M c (Zuh st) with
 | none=>
  refine Wq fun n=>?_
  cases h:ZK (Qu X M n) M n c (Zuh st) with
  | none=>simp only[ZK,h]
  | some q=>rw[X3 X M h] at hc;cases hc
 | some q=>
  obtain⟨n,hn⟩:=ZbY X M hc
  exact X3 X M (n:=n) (by simp only[ZK,hn _ (Nat.le_refl n)])
noncomputable def ZjC (c:Ze) (K:List Nat) (st:St):Option (Ex×St):=lim fun n=>Zaj (ZK (Qu X M n) M n c) K n st
theorem ZgZ (c:Ze) (K:List Nat) (st:St):Zzh fun n=>Zaj (ZK (Qu X M n) M n c) K n st:=fun n r hr=>
 Zmy (fun _ _ h=>Zpj (Znv X M n) (Nat.le_succ n) c _ _ h) K n (n+1) st r (Nat.le_succ n) hr
theorem Zxy (c:Ze) (st:St):Q3 X M (.loop c) st=ZjC X M c (Zlz st.sl) st:=by
 simp only[Q3,ZjC,ZK]
theorem ZvR {c:Ze} {K:List Nat} {st st' : St} (h:Q3 X M c (J6 K st)=some (.normal,st')) :
  ZjC X M c K st=ZjC X M c K st':=by
 obtain⟨n,hn⟩:=ZbY X M h
 cases hl:ZjC X M c K st' with
 | none=>
  refine Wq fun k=>?_
  cases hk:Zaj (ZK (Qu X M k) M k c) K k st with
  | none=>rfl
  | some q=>
   have h1:=(ZgZ X M c K st).le hk (show k≤max k n+1 by omega)
   simp only[Zaj] at h1
   rw[hn (max k n+1) (by omega)] at h1
   simp only[] at h1
   have h2:=Zmy (fun _ _ h=>h) K (max k n) (max k n+1) st' q (Nat.le_succ _) h1
   rw[show ZjC X M c K st'=some q from ZlB (ZgZ X M c K st') h2] at hl
   cases hl
 | some q=>
  obtain⟨m,hm⟩:=ZjB hl
  refine ZlB (ZgZ X M c K st) (n:=max n m+1) ?_
  simp only[Zaj,hn (max n m+1) (by omega)]
  exact Zmy (fun _ _ h=>Zpj (Zgv X M (show m≤max n m+1 by omega)) (show m≤max n m+1 by omega) c _ _ h) K m (max n m) st' q (by omega) hm
theorem Zql {c:Ze} {K:List Nat} {st st' : St} {e:Ex} (he:e≠.normal) (h:Q3 X M c (J6 K st)=some (e,st')) :
  ZjC X M c K st=some (e,st'):=by
 obtain⟨n,hn⟩:=ZbY X M h
 refine ZlB (ZgZ X M c K st) (n:=n+1) ?_
 simp only[Zaj,hn (n+1) (by omega)]
 cases e with
 | normal=>exact absurd rfl he
 | exit id=>rfl
 | ret=>rfl
theorem ZAn {f:Nat} {as:List AV} {h:List Zt} {fn:Zz} {r:AV×List Zt} (hx:X f=some (.text fn))
  (hl:as.length≤fn.nt) (hr:ZeX h.length fn.res (Q3 X M fn.body { sl:=UT 0 as,hp:=UB 0 h,nx:=h.length,m:=h.length })=some r) :
  Zg X M f as h=some r:=by
 cases hv:Q3 X M fn.body { sl:=UT 0 as,hp:=UB 0 h,nx:=h.length,m:=h.length } with
 | none=>rw[hv] at hr;simp[ZeX] at hr
 | some q=>
  rw[hv] at hr
  obtain⟨n,hn⟩:=ZbY X M hv
  refine ZlB (ZgY X M f as h) (n:=n+1) ?_
  simp only[Qu,hx,ZiB,Zmw,hl,if_true,hn n (Nat.le_refl n)]
  exact hr
theorem Zqm {f:Nat} {as:List AV} {h:List Zt} {p:List AV→List Zt→Option (AV×List Zt)} {r:AV×List Zt} (hx:X f=some (.prim p)) (hp:p as h=some r) :
  Zg X M f as h=some r:=
 ZlB (ZgY X M f as h) (n:=1) (by simp only[Qu,hx,ZiB,hp])
end
section
variable (P:Program)
def J7 (nt:Nat):Code→Option Ze
 | .skip=>some .skip
 | .region _ ops draw=>bnd (QV (Zok P nt ops.toList) ops.toList) fun os=>if draw then (if Zqi ops os then some (.region ops.toList.length (some (Zgr ops os)) os) else some .stuck) else some (.region ops.toList.length none os)
 | .seq a b=>bnd (J7 nt a) fun a=>bnd (J7 nt b) fun b=>some (.seq a b)
 | .cond c a b=>bnd (Z9 c) fun c=>bnd (J7 nt a) fun a=>bnd (J7 nt b) fun b=>some (.cond c a b)
 | .block id c=>bnd (J7 nt c) fun c=>some (.block id c)
 | .loop c=>bnd (J7 nt c) fun c=>some (.loop c)
 | .exit id=>some (.exit id)
 | .ret=>some .ret
 | _=>some .stuck
def Zkz:COp→COp
 | .buildDp s _ xs=>.buildSl s xs
 | .asgDp s _ x=>.assign (some s) x
 | .appDp s b flat x y=>.append s b false flat x y
 | c=>c
def Znx:List CO→List CO
 | []=>[]
 | o :: r => { o with op:=Zkz o.op } :: Znx r
def Zxz:Option (List (Nat×Nat))→List CO→List CO
 | none,ops=>Znx ops
 | some _,ops=>ops
def VE:Ze→Ze
 | .keep _ c=>VE c
 | .seq a b=>.seq (VE a) (VE b)
 | .cond c a b=>.cond c (VE a) (VE b)
 | .block id c=>.block id (VE c)
 | .loop c=>.loop (VE c)
 | .region n d ops=>.region n d (Zxz d ops)
 | .link _ _ _ c=>VE c
 | .melt c=>VE c
 | .skip=>.skip
 | .exit id=>.exit id
 | .ret=>.ret
 | .stuck=>.stuck
def Zny (cf:Zz):Zz := { nt:=cf.nt,res:=cf.res,body:=VE cf.body }
def cRes:ResultVar→Option ZrS
 | .tmp t=>some (.tmp t)
 | .cell a t=>bnd (ZhS P t) fun g=>some (.cell a g (P.cellsOf t))
def cFun (fn:Func):Option Zz:=bnd fn.body fun c=>bnd (J7 P fn.ntmps c) fun b=>bnd (QV (cRes P) fn.results.toList) fun rs=>some { nt:=fn.ntmps,res:=rs,body:=b }
end
end Go.Abs
