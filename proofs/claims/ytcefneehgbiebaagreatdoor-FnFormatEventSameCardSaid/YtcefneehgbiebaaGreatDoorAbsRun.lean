/- Own text. -/
import Derived.Test.YtcefneehgbiebaaGreatDoorAbsOps
set_option linter.unusedVariables false
set_option linter.unusedSimpArgs false
namespace Go.Abs
open Go
inductive Ex where
 | normal
 | exit (id:Nat)
 | ret
def QT (lo hi:Nat):Hp→Bool
 | []=>true
 | (k,_) :: r=>decide (lo≤k)&&decide (k<hi)&&QT (k+1) hi r
def Xa (gone:List Nat) (sl:Sl):Sl:=match gone with
 | []=>sl
 | _=>ZhY (kill gone) sl
def Y4 (gone:List Nat) (hp:Hp):Hp:=match gone with
 | []=>hp
 | _=>ZhY (XV gone) hp
def Zp (sl:Sl) (dst:Option Nat) (v:AV):Sl:=match dst with
 | some t=>ins sl t v
 | none=>sl
def Zd.on (e:Zd) (dst:Option Nat) (sl:Sl) (hp:Hp):Sl×Hp:=
 (Zp (Xa e.gone sl) dst e.eff.val,e.eff.on (Y4 e.gone hp))
def YH (base:Nat) (dst:Option Nat) (sl:Sl) (hp:Hp) (e:Option Zd):Option (Sl×Hp):=
 bnd e fun e=>if QT base (base+64) e.eff.adds then some (e.on dst sl hp) else none
def Zfi (want:Bool):AV→Option Bool
 | .d (.bool b)=>some (b==want)
 | .tup []=>some false
 | _=>none
def Z3 (sl:Sl):Option (Nat×Bool)→Option Bool
 | none=>some true
 | some q=>Zfi q.2 (gs sl q.1)
inductive ZX where
 | skip
 | region (n:Nat) (draw:Option (List (Nat×Nat))) (ops:List CO)
 | seq (a b:ZX)
 | cond (c:Opd) (a b:ZX)
 | block (id:Nat) (c:ZX)
 | loop (c:ZX)
 | exit (id:Nat)
 | ret
 | keep (K:List Nat) (c:ZX)
 | stuck
 | link (id:Nat) (i:Opd) (j:Nat) (c:ZX)
 | melt (c:ZX)
inductive Zqi where
 | tmp (t:Nat)
 | cell (a:Nat) (g:Bool) (s:Nat)
structure Zs where
 nt:Nat
 res:List Zqi
 body:ZX
def Zmk (x:Option Opd):List Opd:=match x with
 | some y=>[y]
 | none=>[]
def ZI:COp→List Opd
 | .move x=>[x]
 | .assign _ x=>[x]
 | .pick c a b=>[c,a,b]
 | .alloc _ _=>[]
 | .box x=>[x]
 | .build _ ps=>ps.map fun q=>q.2.2
 | .buildSl _ xs=>xs
 | .load _ _ a=>[a]
 | .store _ _ a x=>[a,x]
 | .nilCheck x=>[x]
 | .bin _ _ x y=>[x,y]
 | .un _ x=>[x]
 | .eqA _ _ x y=>[x,y]
 | .convI _ x=>[x]
 | .convS x=>[x]
 | .fn _ cs=>cs
 | .make _ _ _ l c=>[l,c]
 | .slice _ x lo hi=>x :: (Zmk lo++Zmk hi)
 | .sliceS x lo hi=>x :: (Zmk lo++Zmk hi)
 | .slice0 x hi mx=>[x,hi,mx]
 | .shift _ x=>[x]
 | .part _ _ _ x=>[x]
 | .iaS _ x i=>[x,i]
 | .iaA _ _ x i=>[x,i]
 | .ixS x i=>[x,i]
 | .ixA _ _ _ x i=>[x,i]
 | .nth _ x=>[x]
 | .len x=>[x]
 | .lenS x=>[x]
 | .append _ _ _ _ x y=>[x,y]
 | .min x y=>[x,y]
 | .max x y=>[x,y]
 | .call f as=>f :: as
 | .slice3 _ x lo hi mx=>[x,lo,hi,mx]
 | .clear _ _ x=>[x]
 | .stuck=>[]
 | .buildDp _ _ xs=>xs
 | .appDp _ _ _ x y=>[x,y]
 | .asgDp _ _ x=>[x]
def ZhG:COp→Bool
 | .store _ _ _ _=>true
 | _=>false
def isApp:COp→Bool
 | .append _ _ _ _ _ _=>true
 | _=>false
def Zoq (c:COp):Bool:=ZhG c || isApp c
def CO.starts (o:CO):Bool:=ZhG o.op || o.tl
def ZZ (os:List CO) (i:Nat):Bool:=match os[i]? with
 | some o=>CO.starts o
 | none=>false
def Zbz:Opd→List Nat
 | .t n=>[n]
 | _=>[]
def Zor:Option (Nat×Bool)→List Nat
 | some q=>[q.1]
 | none=>[]
def looks (o:CO):List Nat:=(ZI o.op).flatMap Zbz++Zor o.guard
def QN:Option Nat→List Nat→Bool
 | some d,l=>!l.contains d
 | none,_=>true
def ZaF:Option Nat→Option Nat→Bool
 | some d,some e=>d != e
 | _,_=>true
def Xz (a b:CO):Bool:=QN a.dst (looks b)&&ZaF a.dst b.dst&&QN b.dst (looks a)
def Y5:Opd→Bool
 | .v a=>(ZB a).isEmpty&&!Zrm a
 | _=>true
def Ztb (os:List CO) (j i:Nat):Bool:=match os[j]?,os[i]? with
 | some a,some b=>Xz a b
 | _,_=>false
def WG:COp→Bool
 | .load _ _ _=>false
 | .store _ _ _ _=>false
 | .slice _ _ _ _=>false
 | .slice0 _ _ _=>false
 | .iaS _ _ _=>false
 | .len _=>false
 | .append _ _ _ _ _ _=>false
 | .buildSl _ _=>false
 | .buildDp _ _ _=>false
 | .appDp _ _ _ _ _=>false
 | .asgDp _ _ _=>false
 | .call _ _=>false
 | .slice3 _ _ _ _ _=>false
 | .clear _ _ _=>false
 | _=>true
def JK:COp→Bool
 | .load _ _ _=>true
 | .slice _ _ _ _=>true
 | .slice0 _ _ _=>true
 | .iaS _ _ _=>true
 | .len _=>true
 | _=>false
def Zws:COp→Bool
 | .clear _ _ _=>false
 | .store _ _ _ _=>false
 | .append _ _ _ _ _ _=>false
 | .buildSl _ _=>false
 | .buildDp _ _ _=>false
 | .appDp _ _ _ _ _=>false
 | .asgDp _ _ _=>false
 | .call _ _=>false
 | _=>true
def Ji (os:List CO) (k:Nat):Option Nat:=match os[k]? with
 | some o=>o.dst
 | none=>none
def Ztc (os:List CO) (k:Nat):List Nat:=match os[k]? with
 | some o=>looks o
 | none=>[]
def ZbA (os:List CO) (k:Nat):Bool:=(List.range os.length).all fun q=>decide (q<k) || QN (Ji os q) (Ztc os k)
def Va:COp→Bool
 | .move _=>true
 | _=>false
def Zfj:COp→Bool
 | .append _ _ _ _ _ _=>true
 | .buildSl _ _=>true
 | _=>false
def Za3:COp→Bool
 | .call (.f _) _=>true
 | _=>false
def ZkO:COp→List Opd
 | .call _ as=>as
 | _=>[]
def Zwt:COp→Bool
 | .alloc _ _=>false
 | .box _=>false
 | .assign _ _=>false
 | .make _ _ _ _ _=>false
 | .fn _ _=>false
 | _=>true
def ZrT:COp→Bool
 | .buildSl _ _=>true
 | _=>false
def ZdK:AV→Bool
 | .d _=>true
 | .nil=>true
 | .nilp=>true
 | .nili=>true
 | _=>false
def VZ:List AV→Bool
 | []=>true
 | c :: r=>ZdK c&&VZ r
def Znq:COp→Bool
 | .alloc _ cs=>VZ cs
 | _=>false
def Zos (c:COp):Bool:=JK c || ZrT c || (WG c&&Zwt c) || Znq c
def ZjE:COp→Bool
 | .alloc _ cs=>VZ cs
 | .buildSl _ _=>true
 | .load _ _ _=>true
 | .nilCheck _=>true
 | .bin _ _ _ _=>true
 | .un _ _=>true
 | .convI _ _=>true
 | .shift _ _=>true
 | .iaS _ _ _=>true
 | .slice _ _ _ _=>true
 | .len _=>true
 | .sliceS _ _ _=>true
 | .lenS _=>true
 | _=>false
def ZBb:Option Nat→Bool
 | some _=>true
 | none=>false
def Zml (os:List CO) (k:Nat):Bool:=ZBb (Ji os k)&&(List.range os.length).all fun q=>q==k || ZaF (Ji os q) (Ji os k)
def ZjF (os:List CO) (j i:Nat):Bool:=ZbA os j&&ZbA os i
def ZzR (os:List CO) (j i:Nat) (a b:COp):Bool:=
 Zws b || (Zoq b&&(WG a || (!Va a&&JK a&&ZjF os j i))) || (Va a&&(Zfj b || Zml os j)) || (!Va a&&Za3 b&&Zos a&&ZjF os j i&&Zml os j)
def ZzS (os:List CO) (j i:Nat) (a b:COp):Bool:=(Va b&&Zml os i) || (!Va b&&Za3 a&&ZjE b&&ZjF os j i&&Zml os i)
def Ztd (os:List CO) (j i:Nat):Bool:=match os[j]?,os[i]? with
 | some a,some b=>if ZZ os j then !ZZ os i&&ZzS os j i a.op b.op else !ZZ os i || ZzR os j i a.op b.op
 | _,_=>false
def Zfk (os:List CO) (j i:Nat):Option (Nat×Nat):=match os[j]?,os[i]? with
 | some a,some b=>if ZZ os j then (if Va b.op || Za3 a.op then some (i,j) else none) else
   if ZZ os i&&(if Zoq b.op then !(WG a.op) else if Va a.op then !(Zfj b.op) else Za3 b.op) then some (j,i) else none
 | _,_=>none
def optP:Option (Nat×Nat)→List (Nat×Nat)
 | some p=>[p]
 | none=>[]
def ZcG (ops:Array Oper) (os:List CO):List (Nat×Nat):=
 (List.range ops.size).flatMap fun i=>(List.range i).flatMap fun j=>if ZiG ops 6 i j then [] else optP (Zfk os j i)
def Zot (ops:Array Oper) (os:List CO):Bool:=
 (List.range ops.size).all (fun i=>(Ws ops i).all fun e=>decide (e<i)) &&
 (List.range ops.size).all (fun i=>(List.range i).all fun j=>(Ws ops i).contains j || Ztb os j i) &&
 (List.range ops.size).all (fun i=>(List.range i).all fun j=>ZiG ops 6 i j || Ztd os j i) &&
 os.all (fun o=>(ZI o.op).all Y5)
def ZcH (id:Nat):AV→Bool
 | .d _=>true
 | .pim _=>true
 | .nil=>true
 | .ptr k _=>k != id
 | .prow k _ _ _=>k != id
 | .own k=>k != id
 | .ownv k _ _=>k != id
 | .nilp=>true
 | .nili=>true
 | .tup []=>true
 | _=>false
def okC:AV→Bool
 | .d _=>true
 | .pim _=>true
 | .nil=>true
 | .ptr _ _=>true
 | .prow _ _ _ _=>true
 | .own _=>true
 | .ownv _ _ _=>true
 | .nilp=>true
 | .nili=>true
 | _=>false
def Zte:List AV→Bool
 | []=>true
 | v :: r=>okC v&&Zte r
def okV:AV→Bool
 | .agg cs=>Zte cs
 | .tup []=>true
 | v=>okC v
def okL (sl:Sl):List Opd→Bool
 | []=>true
 | x :: r=>okV (evO sl x)&&okL sl r
def okD (sl:Sl):Option Nat→Bool
 | some t=>okV (gs sl t)
 | none=>true
def V0:AV→Option Nat
 | .ptr k _=>some k
 | .prow k _ _ _=>some k
 | _=>none
def Xm (sl:Sl) (id:Nat):List Opd→Bool
 | []=>true
 | x :: r=>ZcH id (evO sl x)&&Xm sl id r
def Zfl (sl:Sl) (a:COp):Option Nat→Bool
 | some id=>Xm sl id (ZI a)
 | none=>false
def ZcI (sl:Sl) (xs:List Opd):AV→Bool
 | .ptr k _=>Xm sl k xs
 | .prow _ _ _ _=>false
 | _=>true
def ZgG (sl:Sl) (xs:List Opd):List Opd→Bool
 | []=>true
 | y :: r=>ZcI sl xs (evO sl y)&&ZgG sl xs r
def UZ (sl:Sl) (a:COp):AV→Bool
 | .nil=>true
 | .tup []=>true
 | .own k=>Xm sl k (ZI a)
 | .ownv k _ _=>Xm sl k (ZI a)
 | .sub k _=>Xm sl k (ZI a)
 | _=>false
def seenSrc (sl:Sl) (a:COp):AV→Bool
 | .own k=>Xm sl k (ZI a)
 | v=>okV v
def Ja (sl:Sl) (d:Option Nat):COp→COp→Bool
 | .move _,_=>okD sl d
 | a,.store _ _ x _=>Zfl sl a (V0 (evO sl x))
 | a,.append _ _ _ flat x y=>UZ sl a (evO sl x)&&(flat || seenSrc sl a (evO sl y))
 | a,.call _ as=>okL sl (ZI a)&&(okD sl d&&(okL sl as&&ZgG sl (ZI a) as))
 | _,_=>false
def ZjG (os:List CO) (sl:Sl) (p:Nat×Nat):Bool:=match os[p.1]?,os[p.2]? with
 | some a,some b=>Ja sl a.dst a.op b.op
 | _,_=>false
def U0 (os:List CO) (sl:Sl):List (Nat×Nat)→Bool
 | []=>true
 | p :: r=>ZjG os sl p&&U0 os sl r
section
variable (C:Orc) (M:Zn)
noncomputable def ZeD (nx:Nat):Nat→List CO→Sl→Hp→Option (Sl×Hp)
 | _,[],sl,hp=>some (sl,hp)
 | i,o :: rest,sl,hp=>bnd (Z3 sl o.guard) fun b=>
   if b then bnd (YH (nx+64*i) o.dst sl hp (vop C M sl hp (nx+64*i) o.op)) fun r=>ZeD nx (i+1) rest r.1 r.2
   else ZeD nx (i+1) rest (Zp sl o.dst (.tup [])) hp
def Zfm (c:Zd):List Nat→Hp→List Nat→List Nat→Option Zd
 | [],[],[],[]=>some c
 | _,_,_,_=>none
def ZcJ (e:Option Zd):Option Zd:=bnd e fun c=>Zfm c c.gone c.eff.sets c.eff.dels c.eff.frz
noncomputable def WA (nx i:Nat) (tail:Bool) (o:COp) (sl:Sl) (hp:Hp):Option Zd:=
 if tail then vop C M sl hp (nx+64*i) o else ZcJ (vop C M sl hp (nx+64*i) o)
noncomputable def UB (nx:Nat):Nat→Bool→List CO→Sl→Hp→Option (Sl×Hp)
 | _,_,[],sl,hp=>some (sl,hp)
 | i,t,o :: rest,sl,hp=>bnd (Z3 sl o.guard) fun b=>
   if b then bnd (YH (nx+64*i) o.dst sl hp (WA C M nx i (CO.starts o) o.op sl hp)) fun r=>UB nx (i+1) t rest r.1 r.2
   else UB nx (i+1) t rest (Zp sl o.dst (.tup [])) hp
def ZiK {α:Type}:List (Nat×α)→List Nat
 | []=>[]
 | (k,_) :: r=>k :: ZiK r
def only {α:Type} (K:List Nat):List (Nat×α)→List (Nat×α)
 | []=>[]
 | (k,v) :: r=>if K.contains k then (k,v) :: only K r else only K r
def Vu:Nat→List Zl→Hp
 | _,[]=>[]
 | k,o :: r=>Vu (k+1) r++[(k,o)]
def Zou:Sl→List Nat
 | []=>[]
 | (_,v) :: r=>ZB v++Zou r
def JL:Option Zl→Bool
 | some _=>true
 | none=>false
def ZdL (hp:Hp) (ids:List Nat) (i:Nat):Bool:=ids.contains i&&JL (lkp hp i)
def ZgH (hp:Hp) (ids:List Nat):List Nat→List Nat
 | []=>[]
 | i :: r=>if ZdL hp ids i then ZgH hp ids r else i :: ZgH hp ids r
def ZeE (hp:Hp) (ids:List Nat) (v:AV):AV:=ren (Wr ids) (kill (ZgH hp ids (ZB v)) v)
def ZgI (hp:Hp) (ids:List Nat) (o:Zl):Zl:=Zmi (Wr ids) (XV (ZgH hp ids (Zbe o)) o)
def Zwu:Option Zl→List Nat
 | some o=>Zbe o
 | none=>[]
def Wv (hp:Hp):List Nat→List Nat
 | []=>[]
 | id :: r=>Zwu (lkp hp id)++Wv hp r
def Ww (K:List Nat) (st:St):St:=
 let sl:=only K st.sl
 let ids:=QL st.hp (Q9 st.hp) (Zou sl++Wv st.hp (List.range st.m)) (List.range st.m)
 { sl:=ZhY (ZeE st.hp ids) sl,hp:=Vu 0 ((Zcw st.hp ids).map (ZgI st.hp ids)),nx:=ids.length,m:=st.m }
def UC (f:St→Option (Ex×St)) (K:List Nat):Nat→St→Option (Ex×St)
 | 0,_=>none
 | n+1,st=>match f (Ww K st) with
  | some (.normal,st')=>UC f K n st'
  | r=>r
def andThen (r:Option (Ex×St)) (k:St→Option (Ex×St)):Option (Ex×St):=match r with
 | some (.normal,st)=>k st
 | r=>r
def ZgJ (v:AV) (a b:Option (Ex×St)):Option (Ex×St):=match v with
 | .d (.bool t)=>if t then a else b
 | _=>none
def Zf4 (id:Nat) (r:Option (Ex×St)):Option (Ex×St):=match r with
 | some (.exit j,st)=>if j=id then some (.normal,st) else some (.exit j,st)
 | r=>r
def Zov (ops:List CO) (ps:List (Nat×Nat)) (r:Option (Sl×Hp)):Option (Sl×Hp):=bnd r fun r=>if U0 ops r.1 ps then some r else none
def ZjH (m nx:Nat) (r:Option (Sl×Hp)):Option (Ex×St):=bnd r fun r=>some (.normal,{ sl:=r.1,hp:=r.2,nx:=nx,m:=m })
def Zl2 (K:List Nat) (r:Option (Ex×St)):Option (Ex×St):=match r with
 | some q=>some (q.1,{ q.2 with sl:=only K q.2.sl })
 | none=>none
def ZxB (nx n j:Nat):Option Zl→Option Zl
 | some (.deep s k xs _)=>bnd (Zjx xs n j) fun _=>some (.deep s k xs (some (nx,n,j)))
 | _=>none
def ZdM (id:Nat) (i:Opd) (j:Nat) (st:St):Option St:=bnd (idx (evO st.sl i)) fun n=>if 0≤n then bnd (ZxB st.nx n.toNat j (lkp st.hp id)) fun o=>some { st with hp:=ins st.hp id o,nx:=st.nx+64 } else none
def Ztf (st:St):St := { st with hp:=ZhY ZcA st.hp }
noncomputable def ZE (N:Nat):ZX→St→Option (Ex×St)
 | .skip,st=>some (.normal,st)
 | .region n none ops,st=>ZjH st.m (st.nx+64*n) (ZeD C M st.nx 0 ops st.sl st.hp)
 | .region n (some ps) ops,st=>ZjH st.m (st.nx+64*n) (Zov ops ps (UB C M st.nx 0 false ops st.sl st.hp))
 | .seq a b,st=>andThen (ZE N a st) (ZE N b)
 | .cond c a b,st=>ZgJ (evO st.sl c) (ZE N a st) (ZE N b st)
 | .block id c,st=>Zf4 id (ZE N c st)
 | .loop c,st=>UC (ZE N c) (ZiK st.sl) N st
 | .exit id,st=>some (.exit id,st)
 | .ret,st=>some (.ret,st)
 | .keep K c,st=>Zl2 K (ZE N c st)
 | .stuck,_=>none
 | .link id i j c,st=>bnd (ZdM id i j st) (ZE N c)
 | .melt c,st=>ZE N c (Ztf st)
def Zmm (st:St):Zqi→Option AV
 | .tmp t=>some (gs st.sl t)
 | .cell a g s=>Uz st.hp g s (gs st.sl a)
def Vb (m:Nat) (hp:Hp) (v:AV):AV×List Zl:=
 let ids:=QL hp (Q9 hp) (ZB v++Wv hp (List.range m)) (List.range m)
 (ZeE hp ids v,(Zcw hp ids).map (ZgI hp ids))
def ZxC:AV→Bool
 | .tup _=>true
 | _=>false
def ZiL:List AV→Bool
 | []=>false
 | v :: r=>ZxC v || ZiL r
def ZbU:List AV→AV
 | [v]=>v
 | vs=>if ZiL vs then .junk else .tup vs
def V1:Nat→List AV→Sl
 | _,[]=>[]
 | k,v :: r=>V1 (k+1) r++[(k,v)]
def ZbB (m:Nat) (rs:List Zqi) (r:Option (Ex×St)):Option (AV×List Zl):=match r with
 | some (.normal,st)=>bnd (QF (Zmm st) rs) fun vs=>some (Vb m st.hp (ZbU vs))
 | some (.ret,st)=>bnd (QF (Zmm st) rs) fun vs=>some (Vb m st.hp (ZbU vs))
 | _=>none
noncomputable def ZjI (N:Nat) (fn:Zs) (as:List AV) (h:List Zl):Option (AV×List Zl):=
 if as.length≤fn.nt then ZbB h.length fn.res (ZE C M N fn.body { sl:=V1 0 as,hp:=Vu 0 h,nx:=h.length,m:=h.length }) else none
end
inductive Fn where
 | text (f:Zs)
 | prim (p:List AV→List Zl→Option (AV×List Zl))
abbrev Fns:=Nat→Option Fn
noncomputable def Zfn (C:Orc) (M:Zn) (N:Nat) (as:List AV) (h:List Zl):Option Fn→Option (AV×List Zl)
 | some (.text f)=>ZjI C M N f as h
 | some (.prim p)=>p as h
 | none=>none
noncomputable def Qi (X:Fns) (M:Zn):Nat→Orc
 | 0,_,_,_=>none
 | n+1,f,as,h=>Zfn (Qi X M n) M n as h (X f)
open Classical in
noncomputable def lim {α:Type} (x:Nat→Option α):Option α:=if h:∃ r,∃ n,x n=some r then some h.choose else none
def ZyI {α:Type} (x:Nat→Option α):Prop:=∀ n r,x n=some r→x (n+1)=some r
theorem ZyI.le {α:Type} {x:Nat→Option α} (h:ZyI x) {n m:Nat} {r:α} (hr:x n=some r) (aa:n≤m):x m=some r:=by
 induction aa with
 | refl=>exact hr
 | step _ ih=>exact h _ _ ih
theorem ZiM {α:Type} {x:Nat→Option α} (h:ZyI x) {n:Nat} {r:α} (hr:x n=some r):lim x=some r:=by
 have he:∃ r,∃ n,x n=some r:=⟨r,n,hr⟩
 unfold lim;rw[dif_pos he];obtain⟨m,hm⟩:=he.choose_spec;have h1:=h.le hm (L4 m n);have h2:=h.le hr (LZ m n);rw[h1] at h2;exact h2
theorem ZgK {α:Type} {x:Nat→Option α} {r:α} (hr:lim x=some r):∃ n,x n=some r:=by
 unfold lim at hr;split at hr
 ·rename_i h;obtain⟨n,hn⟩:=h.choose_spec;exact⟨n,by rw[hn];exact hr⟩
 ·cases hr
def Orc.le (C C' : Orc):Prop:=∀ f as h r,C f as h=some r→C' f as h=some r
section
variable {M:Zn} {C C' : Orc}
theorem ZbC {α β:Type} {x x' : Option α} {f f' : α→Option β} {r:β} (hx:∀ a,x=some a→x'=some a) (hf:∀ a,f a=some r→f' a=some r) (h:bnd x f=some r):bnd x' f'=some r:=by
 obtain⟨a,h1,h2⟩:=Za h;rw[hx a h1];exact hf a h2
theorem ZzT (h:C.le C') {m:Nat→Bool} {hp:Hp} {base f:Nat} {aa:List AV} {r:Zd}
  (hr:ZbR C m hp base f aa=some r):ZbR C' m hp base f aa=some r:=by
 unfold ZbR at hr ⊢;refine ZbC (fun _ h=>h) (fun as hr=>?_) hr;unfold Zdl at hr ⊢;by_cases hc:(as.flatMap ZB).all (QL hp (Q9 hp) (as.flatMap ZB) []).contains∧¬(YN aa as).any (QL hp (Q9 hp) (as.flatMap ZB) []).contains∧Zb1 hp (as.flatMap Zbh) (QL hp (Q9 hp) (as.flatMap ZB) [])=true
 ·rw[Ki hc] at hr ⊢;exact ZbC (fun q hq=>h _ _ _ _ hq) (fun _ h=>h) hr
 ·rw[Kd hc] at hr;cases hr
theorem Ztg (h:C.le C') {sl:Sl} {hp:Hp} {base:Nat} {o:COp} {r:Zd} (hr:vop C M sl hp base o=some r) :
  vop C' M sl hp base o=some r:=by
 cases o with
 | call f as=>
  simp only[vop] at hr ⊢;cases hg:evO sl f<;>simp only[hg,ZcB] at hr ⊢ <;> first | exact ZzT h hr | exact hr
 | _=>exact hr
theorem Zth (h:C.le C') (nx:Nat):∀ (l:List CO) (i:Nat) (sl:Sl) (hp:Hp) (r:Sl×Hp),
  ZeD C M nx i l sl hp=some r→ZeD C' M nx i l sl hp=some r:=by
 intro l
 induction l with
 | nil=>intro i sl hp r hr;exact hr
 | cons o rest ih=>
  intro i sl hp r hr;simp only[ZeD] at hr ⊢;refine ZbC (fun _ h=>h) (fun b hr=>?_) hr;cases b
  ·simp only[Ka,Ko] at hr ⊢;exact ih _ _ _ _ hr
  ·simp only[Km] at hr ⊢;refine ZbC (fun q hq=>?_) (fun q hq=>ih _ _ _ _ hq) hr;unfold YH at hq ⊢;exact ZbC (fun e he=>Ztg h he) (fun _ h=>h) hq
theorem ZxD (h:C.le C') {nx i:Nat} {t:Bool} {o:COp} {sl:Sl} {hp:Hp} {e:Zd} (he:WA C M nx i t o sl hp=some e) :
  WA C' M nx i t o sl hp=some e:=by
 unfold WA at he ⊢;cases t
 ·simp only[Ka,Ko,ZcJ] at he ⊢;exact ZbC (fun _ hv=>Ztg h hv) (fun _ h=>h) he
 ·simp only[Km] at he ⊢;exact Ztg h he
theorem ZjJ (h:C.le C') (nx:Nat):∀ (l:List CO) (i:Nat) (t:Bool) (sl:Sl) (hp:Hp) (r:Sl×Hp),
  UB C M nx i t l sl hp=some r→UB C' M nx i t l sl hp=some r:=by
 intro l
 induction l with
 | nil=>intro i t sl hp r hr;exact hr
 | cons o rest ih=>
  intro i t sl hp r hr;simp only[UB] at hr ⊢;refine ZbC (fun _ h=>h) (fun b hr=>?_) hr;cases b
  ·simp only[Ka,Ko] at hr ⊢;exact ih _ _ _ _ _ hr
  ·simp only[Km] at hr ⊢;refine ZbC (fun q hq=>?_) (fun q hq=>ih _ _ _ _ _ hq) hr;unfold YH at hq ⊢;exact ZbC (fun e he=>ZxD h he) (fun _ h=>h) hq
theorem ZjK {f g:St→Option (Ex×St)} (h:∀ st r,f st=some r→g st=some r) (K:List Nat) :
  ∀ (n m:Nat) (st:St) (r:Ex×St),n≤m→UC f K n st=some r→UC g K m st=some r:=by
 intro n
 induction n with
 | zero=>intro m st r _ hr;simp[UC] at hr
 | succ n ih=>
  intro m st r hm hr;cases m with
  | zero=>omega
  | succ m=>
   simp only[UC] at hr ⊢;cases hf:f (Ww K st) with
   | none=>simp[hf] at hr
   | some q=>
    rw[hf] at hr;rw[h _ _ hf];obtain⟨e,aa⟩:=q;cases e with
    | normal=>exact ih m aa r (by omega) hr
    | exit id=>exact hr
    | ret=>exact hr
theorem Znr (h:C.le C') {N N' : Nat} (hN:N≤N'):∀ (c:ZX) (st:St) (r:Ex×St),
  ZE C M N c st=some r→ZE C' M N' c st=some r:=by
 intro c
 induction c with
 | skip=>intro st r hr;simpa [ZE] using hr
 | region n draw ops=>
  intro st r hr;cases draw
  ·simp only[ZE,ZjH] at hr ⊢;exact ZbC (fun q hq=>Zth h _ _ _ _ _ _ hq) (fun _ h=>h) hr
  ·simp only[ZE,ZjH,Zov] at hr ⊢;exact ZbC (fun q hq=>ZbC (fun q hq=>ZjJ h _ _ _ _ _ _ _ hq) (fun _ h=>h) hq) (fun _ h=>h) hr
 | seq a b iha ihb=>
  intro st r hr;simp only[ZE] at hr ⊢;cases ha:ZE C M N a st with
  | none=>simp[ha,andThen] at hr
  | some q=>
   rw[ha] at hr;rw[iha _ _ ha];obtain⟨e,aa⟩:=q;cases e with
   | normal=>exact ihb _ _ hr
   | exit id=>exact hr
   | ret=>exact hr
 | cond c a b iha ihb=>
  intro st r hr;simp only[ZE,ZgJ] at hr ⊢;split at hr
  ·rename_i t ht;cases t
   ·simp only[Ka,Ko] at hr ⊢;exact ihb _ _ hr
   ·simp only[Km] at hr ⊢;exact iha _ _ hr
  ·cases hr
 | block id c ih=>
  intro st r hr;simp only[ZE] at hr ⊢;cases hc:ZE C M N c st with
  | none=>simp[hc,Zf4] at hr
  | some q=>rw[hc] at hr;rw[ih _ _ hc];exact hr
 | loop c ih=>
  intro st r hr;simp only[ZE] at hr ⊢;exact ZjK ih _ _ _ _ _ hN hr
 | exit id=>intro st r hr;simpa [ZE] using hr
 | ret=>intro st r hr;simpa [ZE] using hr
 | keep K c ih=>
  intro st r hr;simp only[ZE] at hr ⊢;cases hc:ZE C M N c st with
  | none=>simp[hc,Zl2] at hr
  | some q=>rw[hc] at hr;rw[ih _ _ hc];exact hr
 | stuck=>intro st r hr;simp[ZE] at hr
 | link id i j c ih=>
  intro st r hr;simp only[ZE] at hr ⊢;obtain⟨aa,h1,h2⟩:=Za hr;rw[h1,Zg];exact ih aa r h2
 | melt c ih=>
  intro st r hr;simp only[ZE] at hr ⊢;exact ih _ r hr
theorem ZzU (h:C.le C') {N N' : Nat} (hN:N≤N') {f:Zs} {as:List AV} {hh:List Zl} {r:AV×List Zl}
  (hr:ZjI C M N f as hh=some r):ZjI C' M N' f as hh=some r:=by
 unfold ZjI at hr ⊢;by_cases hl:as.length≤f.nt
 ·rw[Ki hl] at hr ⊢;cases hv:ZE C M N f.body { sl:=V1 0 as,hp:=Vu 0 hh,nx:=hh.length,m:=hh.length } with
  | none=>simp[hv,ZbB] at hr
  | some q=>rw[hv] at hr;rw[Znr h hN _ _ _ hv];exact hr
 ·rw[Kd hl] at hr;cases hr
end
section
variable (X:Fns) (M:Zn)
theorem ZkP:∀ n,(Qi X M n).le (Qi X M (n+1)):=by
 intro n
 induction n with
 | zero=>intro f as h r hr;simp[Qi] at hr
 | succ n ih=>
  intro f as h r hr;rw[Qi] at hr ⊢;cases hf:X f with
  | none=>rw[hf] at hr;cases hr
  | some g=>
   rw[hf] at hr;cases g with
   | text g=>exact ZzU ih (Nat.le_succ n) hr
   | prim p=>exact hr
noncomputable def Ze (f:Nat) (as:List AV) (h:List Zl):Option (AV×List Zl):=lim fun n=>Qi X M n f as h
noncomputable def QP (c:ZX) (st:St):Option (Ex×St):=lim fun n=>ZE (Qi X M n) M n c st
theorem Zdr (f:Nat) (as:List AV) (h:List Zl):ZyI fun n=>Qi X M n f as h:=fun n r hr=>ZkP X M n f as h r hr
theorem Zfo (n:Nat):(Qi X M n).le (Ze X M):=fun f as h _ hr=>ZiM (Zdr X M f as h) hr
theorem ZiN (c:ZX) (st:St):ZyI fun n=>ZE (Qi X M n) M n c st:=fun n r hr=>Znr (ZkP X M n) (Nat.le_succ n) c st r hr
theorem ZcK {n m:Nat} (h:n≤m):(Qi X M n).le (Qi X M m):=fun f as hh _ hr=>(Zdr X M f as hh).le hr h
theorem ZuQ {m:Nat→Bool} {hp:Hp} {base f:Nat} {aa:List AV} {r:Zd}
  (hr:ZbR (Ze X M) m hp base f aa=some r):∃ n,ZbR (Qi X M n) m hp base f aa=some r:=by
 unfold ZbR at hr ⊢;obtain⟨as,ab,hr⟩:=Za hr;simp only[ab,Zg];unfold Zdl at hr ⊢;by_cases hc:(as.flatMap ZB).all (QL hp (Q9 hp) (as.flatMap ZB) []).contains∧¬(YN aa as).any (QL hp (Q9 hp) (as.flatMap ZB) []).contains∧Zb1 hp (as.flatMap Zbh) (QL hp (Q9 hp) (as.flatMap ZB) [])=true
 ·rw[Ki hc] at hr;obtain⟨q,hq,hr⟩:=Za hr;obtain⟨n,hn⟩:=ZgK hq;refine⟨n,?_⟩;rw[Ki hc,hn];exact hr
 ·rw[Kd hc] at hr;cases hr
theorem ZkQ {sl:Sl} {hp:Hp} {base:Nat} {o:COp} {r:Zd} (hr:vop (Ze X M) M sl hp base o=some r) :
  ∃ n,vop (Qi X M n) M sl hp base o=some r:=by
 cases o with
 | call f as=>
  simp only[vop] at hr ⊢;cases hg:evO sl f<;>simp only[hg,ZcB] at hr ⊢ <;> first | exact ZuQ X M hr | exact⟨0,hr⟩
 | _=>exact⟨0,hr⟩
theorem Zwv (nx:Nat):∀ (l:List CO) (i:Nat) (sl:Sl) (hp:Hp) (r:Sl×Hp),
  ZeD (Ze X M) M nx i l sl hp=some r→∃ n,ZeD (Qi X M n) M nx i l sl hp=some r:=by
 intro l
 induction l with
 | nil=>intro i sl hp r hr;exact⟨0,hr⟩
 | cons o rest ih=>
  intro i sl hp r hr;simp only[ZeD] at hr ⊢;obtain⟨b,hb,hr⟩:=Za hr;simp only[hb,Zg];cases b
  ·simp only[Ka,Ko] at hr ⊢;exact ih _ _ _ _ hr
  ·simp only[Km] at hr ⊢;obtain⟨q,hq,hr⟩:=Za hr;unfold YH at hq;obtain⟨e,he,hq⟩:=Za hq;obtain⟨n1,h1⟩:=ZkQ X M he;obtain⟨n2,h2⟩:=ih _ _ _ _ hr;refine⟨max n1 n2,?_⟩;unfold YH;rw[Ztg (ZcK X M (L4 n1 n2)) h1,Zg,hq,Zg];exact Zth (ZcK X M (LZ n1 n2)) _ _ _ _ _ _ h2
theorem Zww {nx i:Nat} {t:Bool} {o:COp} {sl:Sl} {hp:Hp} {e:Zd} (he:WA (Ze X M) M nx i t o sl hp=some e) :
  ∃ n,WA (Qi X M n) M nx i t o sl hp=some e:=by
 unfold WA at he ⊢;cases t
 ·simp only[Ka,Ko,ZcJ] at he ⊢;obtain⟨e',aa,h2⟩:=Za he;obtain⟨n,hn⟩:=ZkQ X M aa;exact⟨n,by rw[hn];exact h2⟩
 ·simp only[Km] at he ⊢;exact ZkQ X M he
theorem ZuR (nx:Nat):∀ (l:List CO) (i:Nat) (t:Bool) (sl:Sl) (hp:Hp) (r:Sl×Hp),
  UB (Ze X M) M nx i t l sl hp=some r→∃ n,UB (Qi X M n) M nx i t l sl hp=some r:=by
 intro l
 induction l with
 | nil=>intro i t sl hp r hr;exact⟨0,hr⟩
 | cons o rest ih=>
  intro i t sl hp r hr;simp only[UB] at hr ⊢;obtain⟨b,hb,hr⟩:=Za hr;simp only[hb,Zg];cases b
  ·simp only[Ka,Ko] at hr ⊢;exact ih _ _ _ _ _ hr
  ·simp only[Km] at hr ⊢;obtain⟨q,hq,hr⟩:=Za hr;unfold YH at hq;obtain⟨e,he,hq⟩:=Za hq;obtain⟨n1,h1⟩:=Zww X M he;obtain⟨n2,h2⟩:=ih _ _ _ _ _ hr;refine⟨max n1 n2,?_⟩;unfold YH;rw[ZxD (ZcK X M (L4 n1 n2)) h1,Zg,hq,Zg];exact ZjJ (ZcK X M (LZ n1 n2)) _ _ _ _ _ _ _ h2
theorem Xo {c:ZX} {st:St} {n:Nat} {r:Ex×St} (h:ZE (Qi X M n) M n c st=some r):QP X M c st=some r:=
 ZiM (ZiN X M c st) h
theorem Vc {α:Type} {x:Nat→Option α} (h:∀ n,x n=none):lim x=none:=by
 cases hx:lim x with
 | none=>rfl
 | some r=>obtain⟨n,hn⟩:=ZgK hx;rw[h n] at hn;cases hn
theorem Zwx (st:St):QP X M .skip st=some (.normal,st):=Xo X M (n:=0) (by simp[ZE])
theorem Zwy (id:Nat) (st:St):QP X M (.exit id) st=some (.exit id,st):=Xo X M (n:=0) (by simp[ZE])
theorem ZyJ (st:St):QP X M .ret st=some (.ret,st):=Xo X M (n:=0) (by simp[ZE])
theorem Zti (n:Nat) (ops:List CO) (st:St) :
  QP X M (.region n none ops) st=ZjH st.m (st.nx+64*n) (ZeD (Ze X M) M st.nx 0 ops st.sl st.hp):=by
 cases h:ZeD (Ze X M) M st.nx 0 ops st.sl st.hp with
 | some r=>
  obtain⟨k,hk⟩:=Zwv X M _ _ _ _ _ _ h;exact Xo X M (n:=k) (by simp only[ZE,hk,ZjH,Zg])
 | none=>
  refine Vc fun k=>?_;simp only[ZE];cases hn:ZeD (Qi X M k) M st.nx 0 ops st.sl st.hp with
  | none=>rfl
  | some r=>rw[Zth (Zfo X M k) _ _ _ _ _ _ hn] at h;cases h
theorem Zwz (n:Nat) (ps:List (Nat×Nat)) (ops:List CO) (st:St) :
  QP X M (.region n (some ps) ops) st=ZjH st.m (st.nx+64*n) (Zov ops ps (UB (Ze X M) M st.nx 0 false ops st.sl st.hp)):=by
 cases h:UB (Ze X M) M st.nx 0 false ops st.sl st.hp with
 | some r=>
  obtain⟨k,hk⟩:=ZuR X M _ _ _ _ _ _ _ h;cases hs:Zov ops ps (some r) with
  | none=>
   refine Vc fun k'=>?_;simp only[ZE];cases hn:UB (Qi X M k') M st.nx 0 false ops st.sl st.hp with
   | none=>rfl
   | some r' =>
    have:=ZjJ (Zfo X M k') _ _ _ _ _ _ _ hn;rw[h] at this;cases this;rw[hs];rfl
  | some r'=>exact Xo X M (n:=k) (by simp only[ZE,hk,hs];rfl)
 | none=>
  refine Vc fun k=>?_;simp only[ZE];cases hn:UB (Qi X M k) M st.nx 0 false ops st.sl st.hp with
  | none=>rfl
  | some r=>rw[ZjJ (Zfo X M k) _ _ _ _ _ _ _ hn] at h;cases h
theorem JM {c:ZX} {st:St} {r:Ex×St} (h:QP X M c st=some r):∃ n,∀ m,n≤m→ZE (Qi X M m) M m c st=some r:=by
 obtain⟨n,hn⟩:=ZgK h;exact⟨n,fun m hm=>(ZiN X M c st).le hn hm⟩
theorem ZyK (a b:ZX) (st:St):QP X M (.seq a b) st=andThen (QP X M a st) (QP X M b):=by
 cases ha:QP X M a st with
 | none=>
  refine Vc fun n=>?_;cases h:ZE (Qi X M n) M n a st with
  | none=>simp[ZE,h,andThen]
  | some q=>rw[Xo X M h] at ha;cases ha
 | some q=>
  obtain⟨e,aa⟩:=q;obtain⟨n,hn⟩:=JM X M ha;cases e with
  | normal=>
   simp only[andThen];cases hb:QP X M b aa with
   | none=>
    refine Vc fun k=>?_;cases h:ZE (Qi X M k) M k (.seq a b) st with
    | none=>rfl
    | some q=>
     have h1:=(ZiN X M (.seq a b) st).le h (L4 k n);simp only[ZE,hn _ (LZ k n),andThen] at h1;rw[Xo X M h1] at hb;cases hb
   | some q=>
    obtain⟨m,hm⟩:=JM X M hb;refine Xo X M (n:=max n m) ?_;simp only[ZE,hn _ (L4 n m),andThen,hm _ (LZ n m)]
  | exit id=>exact Xo X M (n:=n) (by simp only[ZE,hn _ (Kr n),andThen])
  | ret=>exact Xo X M (n:=n) (by simp only[ZE,hn _ (Kr n),andThen])
theorem ZwA (c:Opd) (a b:ZX) (st:St) :
  QP X M (.cond c a b) st=ZgJ (evO st.sl c) (QP X M a st) (QP X M b st):=by
 unfold ZgJ;split
 ·rename_i t h;cases t
  ·simp only[Ka,Ko,QP,ZE,h,ZgJ]
  ·simp only[Km,QP,ZE,h,ZgJ]
 ·rename_i h;refine Vc fun n=>?_;simp only[ZE,ZgJ]
theorem ZuS (id:Nat) (c:ZX) (st:St):QP X M (.block id c) st=Zf4 id (QP X M c st):=by
 cases hc:QP X M c st with
 | none=>
  refine Vc fun n=>?_;cases h:ZE (Qi X M n) M n c st with
  | none=>simp[ZE,h,Zf4]
  | some q=>rw[Xo X M h] at hc;cases hc
 | some q=>
  obtain⟨n,hn⟩:=JM X M hc;cases hb:Zf4 id (some q) with
  | none=>
   obtain⟨e,aa⟩:=q;cases e<;>simp[Zf4] at hb
   split at hb<;>cases hb
  | some r=>exact Xo X M (n:=n) (by simp only[ZE,hn _ (Kr n),hb])
theorem ZwB (K:List Nat) (c:ZX) (st:St):QP X M (.keep K c) st=Zl2 K (QP X M c st):=by
 cases hc:QP X M c st with
 | none=>
  refine Vc fun n=>?_;cases h:ZE (Qi X M n) M n c st with
  | none=>simp[ZE,h,Zl2]
  | some q=>rw[Xo X M h] at hc;cases hc
 | some q=>
  obtain⟨n,hn⟩:=JM X M hc;exact Xo X M (n:=n) (by simp only[ZE,hn _ (Kr n),Zl2])
theorem ZwC (id:Nat) (i:Opd) (j:Nat) (c:ZX) (st:St):QP X M (.link id i j c) st=bnd (ZdM id i j st) (QP X M c):=by
 cases hl:ZdM id i j st with
 | none=>
  refine Vc fun n=>?_;simp only[ZE,hl];rfl
 | some st' =>
  rw[Zg];cases hc:QP X M c st' with
  | none=>
   refine Vc fun n=>?_;cases h:ZE (Qi X M n) M n c st' with
   | none=>simp only[ZE,hl,Zg,h]
   | some q=>rw[Xo X M h] at hc;cases hc
  | some q=>
   obtain⟨n,hn⟩:=JM X M hc;exact Xo X M (n:=n) (by simp only[ZE,hl,Zg,hn _ (Kr n)])
theorem ZwD (c:ZX) (st:St):QP X M (.melt c) st=QP X M c (Ztf st):=by
 cases hc:QP X M c (Ztf st) with
 | none=>
  refine Vc fun n=>?_;cases h:ZE (Qi X M n) M n c (Ztf st) with
  | none=>simp only[ZE,h]
  | some q=>rw[Xo X M h] at hc;cases hc
 | some q=>
  obtain⟨n,hn⟩:=JM X M hc;exact Xo X M (n:=n) (by simp only[ZE,hn _ (Kr n)])
noncomputable def ZgL (c:ZX) (K:List Nat) (st:St):Option (Ex×St):=lim fun n=>UC (ZE (Qi X M n) M n c) K n st
theorem Zds (c:ZX) (K:List Nat) (st:St):ZyI fun n=>UC (ZE (Qi X M n) M n c) K n st:=fun n r hr=>
 ZjK (fun _ _ h=>Znr (ZkP X M n) (Nat.le_succ n) c _ _ h) K n (n+1) st r (Nat.le_succ n) hr
theorem ZwE (c:ZX) (st:St):QP X M (.loop c) st=ZgL X M c (ZiK st.sl) st:=by
 simp only[QP,ZgL,ZE]
theorem ZuT {c:ZX} {K:List Nat} {st aa : St} (h:QP X M c (Ww K st)=some (.normal,aa)) :
  ZgL X M c K st=ZgL X M c K aa:=by
 obtain⟨n,hn⟩:=JM X M h;cases hl:ZgL X M c K aa with
 | none=>
  refine Vc fun k=>?_;cases hk:UC (ZE (Qi X M k) M k c) K k st with
  | none=>rfl
  | some q=>
   have h1:=(Zds X M c K st).le hk (show k≤max k n+1 by omega);simp only[UC] at h1;rw[hn (max k n+1) (by omega)] at h1;simp only[] at h1;have h2:=ZjK (fun _ _ h=>h) K (max k n) (max k n+1) aa q (Nat.le_succ _) h1;rw[show ZgL X M c K aa=some q from ZiM (Zds X M c K aa) h2] at hl;cases hl
 | some q=>
  obtain⟨m,hm⟩:=ZgK hl;refine ZiM (Zds X M c K st) (n:=max n m+1) ?_;simp only[UC,hn (max n m+1) (by omega)];exact ZjK (fun _ _ h=>Znr (ZcK X M (show m≤max n m+1 by omega)) (show m≤max n m+1 by omega) c _ _ h) K m (max n m) aa q (by omega) hm
theorem Zow {c:ZX} {K:List Nat} {st aa : St} {e:Ex} (he:e≠.normal) (h:QP X M c (Ww K st)=some (e,aa)) :
  ZgL X M c K st=some (e,aa):=by
 obtain⟨n,hn⟩:=JM X M h;refine ZiM (Zds X M c K st) (n:=n+1) ?_;simp only[UC,hn (n+1) (by omega)];cases e with
 | normal=>exact absurd rfl he
 | exit id=>rfl
 | ret=>rfl
theorem ZzV {f:Nat} {as:List AV} {h:List Zl} {fn:Zs} {r:AV×List Zl} (hx:X f=some (.text fn))
  (hl:as.length≤fn.nt) (hr:ZbB h.length fn.res (QP X M fn.body { sl:=V1 0 as,hp:=Vu 0 h,nx:=h.length,m:=h.length })=some r) :
  Ze X M f as h=some r:=by
 cases hv:QP X M fn.body { sl:=V1 0 as,hp:=Vu 0 h,nx:=h.length,m:=h.length } with
 | none=>rw[hv] at hr;simp[ZbB] at hr
 | some q=>
  rw[hv] at hr;obtain⟨n,hn⟩:=JM X M hv;refine ZiM (Zdr X M f as h) (n:=n+1) ?_;simp only[Qi,hx,Zfn,ZjI,hl,Km,hn n (Kr n)];exact hr
theorem VH {f:Nat} {as:List AV} {h:List Zl} {p:List AV→List Zl→Option (AV×List Zl)} {r:AV×List Zl} (hx:X f=some (.prim p)) (hp:p as h=some r) :
  Ze X M f as h=some r:=
 ZiM (Zdr X M f as h) (n:=1) (by simp only[Qi,hx,Zfn,hp])
end
section
variable (P:Program)
def Uq (nt:Nat):Code→Option ZX
 | .skip=>some .skip
 | .region _ ops draw=>bnd (QF (Zl0 P nt ops.toList) ops.toList) fun os=>if draw then (if Zot ops os then some (.region ops.toList.length (some (ZcG ops os)) os) else some .stuck) else some (.region ops.toList.length none os)
 | .seq a b=>bnd (Uq nt a) fun a=>bnd (Uq nt b) fun b=>some (.seq a b)
 | .cond c a b=>bnd (Z2 c) fun c=>bnd (Uq nt a) fun a=>bnd (Uq nt b) fun b=>some (.cond c a b)
 | .block id c=>bnd (Uq nt c) fun c=>some (.block id c)
 | .loop c=>bnd (Uq nt c) fun c=>some (.loop c)
 | .exit id=>some (.exit id)
 | .ret=>some .ret
 | _=>some .stuck
def ZhH:COp→COp
 | .buildDp s _ xs=>.buildSl s xs
 | .asgDp s _ x=>.assign (some s) x
 | .appDp s b flat x y=>.append s b false flat x y
 | c=>c
def ZkR:List CO→List CO
 | []=>[]
 | o :: r => { o with op:=ZhH o.op } :: ZkR r
def ZwF:Option (List (Nat×Nat))→List CO→List CO
 | none,ops=>ZkR ops
 | some _,ops=>ops
def YI:ZX→ZX
 | .keep _ c=>YI c
 | .seq a b=>.seq (YI a) (YI b)
 | .cond c a b=>.cond c (YI a) (YI b)
 | .block id c=>.block id (YI c)
 | .loop c=>.loop (YI c)
 | .region n d ops=>.region n d (ZwF d ops)
 | .link _ _ _ c=>YI c
 | .melt c=>YI c
 | .skip=>.skip
 | .exit id=>.exit id
 | .ret=>.ret
 | .stuck=>.stuck
def ZkS (cf:Zs):Zs := { nt:=cf.nt,res:=cf.res,body:=YI cf.body }
def cRes:ResultVar→Option Zqi
 | .tmp t=>some (.tmp t)
 | .cell a t=>bnd (Zev P t) fun g=>some (.cell a g (P.cellsOf t))
def cFun (fn:Func):Option Zs:=bnd fn.body fun c=>bnd (Uq P fn.ntmps c) fun b=>bnd (QF (cRes P) fn.results.toList) fun rs=>some { nt:=fn.ntmps,res:=rs,body:=b }
end
end Go.Abs
