/- Own text. -/
import Derived.Test.YtcefneehgbiebaaGreatDoorAbsOps
set_option linter.unusedVariables false
set_option linter.unusedSimpArgs false
namespace Go.Abs
open Go
inductive Ex where
 | normal
 | exit (id:Nat)
 | ret
def QZ (lo hi:Nat):Hp→Bool
 | []=>true
 | (k,_) :: r=>decide (lo≤k)&&decide (k<hi)&&QZ (k+1) hi r
def Xe (gone:List Nat) (sl:Sl):Sl:=match gone with
 | []=>sl
 | _=>Ziv (kill gone) sl
def Ve (gone:List Nat) (hp:Hp):Hp:=match gone with
 | []=>hp
 | _=>Ziv (XZ gone) hp
def Zt (sl:Sl) (dst:Option Nat) (v:AV):Sl:=match dst with
 | some t=>ins sl t v
 | none=>sl
def Zd.on (e:Zd) (dst:Option Nat) (sl:Sl) (hp:Hp):Sl×Hp:=
 (Zt (Xe e.gone sl) dst e.eff.val,e.eff.on (Ve e.gone hp))
def YQ (base:Nat) (dst:Option Nat) (sl:Sl) (hp:Hp) (e:Option Zd):Option (Sl×Hp):=
 bnd e fun e=>if QZ base (base+64) e.eff.adds then some (e.on dst sl hp) else none
def ZfS (want:Bool):AV→Option Bool
 | .d (.bool b)=>some (b==want)
 | .tup []=>some false
 | _=>none
def Z6 (sl:Sl):Option (Nat×Bool)→Option Bool
 | none=>some true
 | some q=>ZfS q.2 (gs sl q.1)
inductive ZZ where
 | skip
 | region (n:Nat) (draw:Option (List (Nat×Nat))) (ops:List CO)
 | seq (a b:ZZ)
 | cond (c:Opd) (a b:ZZ)
 | block (id:Nat) (c:ZZ)
 | loop (c:ZZ)
 | exit (id:Nat)
 | ret
 | keep (K:List Nat) (c:ZZ)
 | stuck
 | link (id:Nat) (i:Opd) (j:Nat) (c:ZZ)
 | melt (c:ZZ)
inductive Zrg where
 | tmp (t:Nat)
 | cell (a:Nat) (g:Bool) (s:Nat)
structure Zr where
 nt:Nat
 res:List Zrg
 body:ZZ
def Zm8 (x:Option Opd):List Opd:=match x with
 | some y=>[y]
 | none=>[]
def ZL:COp→List Opd
 | .move x=>[x]
 | .assign _ x=>[x]
 | .pick c a b=>[c,a,b]
 | .alloc _ _=>[]
 | .box x=>[x]
 | .build _ ps=>ps.map fun q=>q.2.2
 | .buildSl _ xs=>xs
 | .load _ _ a=>[a]
 | .store _ _ a x=>[a,x]
 | .nilCheck x=>[x]
 | .bin _ _ x y=>[x,y]
 | .un _ x=>[x]
 | .eqA _ _ x y=>[x,y]
 | .convI _ x=>[x]
 | .convS x=>[x]
 | .fn _ cs=>cs
 | .make _ _ _ l c=>[l,c]
 | .slice _ x lo hi=>x :: (Zm8 lo++Zm8 hi)
 | .sliceS x lo hi=>x :: (Zm8 lo++Zm8 hi)
 | .slice0 x hi mx=>[x,hi,mx]
 | .shift _ x=>[x]
 | .part _ _ _ x=>[x]
 | .iaS _ x i=>[x,i]
 | .iaA _ _ x i=>[x,i]
 | .ixS x i=>[x,i]
 | .ixA _ _ _ x i=>[x,i]
 | .nth _ x=>[x]
 | .len x=>[x]
 | .lenS x=>[x]
 | .append _ _ _ _ x y=>[x,y]
 | .min x y=>[x,y]
 | .max x y=>[x,y]
 | .call f as=>f :: as
 | .slice3 _ x lo hi mx=>[x,lo,hi,mx]
 | .clear _ _ x=>[x]
 | .stuck=>[]
 | .buildDp _ _ xs=>xs
 | .appDp _ _ _ x y=>[x,y]
 | .asgDp _ _ x=>[x]
def Zig:COp→Bool
 | .store _ _ _ _=>true
 | _=>false
def isApp:COp→Bool
 | .append _ _ _ _ _ _=>true
 | _=>false
def Zph (c:COp):Bool:=Zig c || isApp c
def CO.starts (o:CO):Bool:=Zig o.op || o.tl
def Z0 (os:List CO) (i:Nat):Bool:=match os[i]? with
 | some o=>CO.starts o
 | none=>false
def Zb3:Opd→List Nat
 | .t n=>[n]
 | _=>[]
def Zpi:Option (Nat×Bool)→List Nat
 | some q=>[q.1]
 | none=>[]
def looks (o:CO):List Nat:=(ZL o.op).flatMap Zb3++Zpi o.guard
def QQ:Option Nat→List Nat→Bool
 | some d,l=>!l.contains d
 | none,_=>true
def Zba:Option Nat→Option Nat→Bool
 | some d,some e=>d != e
 | _,_=>true
def XF (a b:CO):Bool:=QQ a.dst (looks b)&&Zba a.dst b.dst&&QQ b.dst (looks a)
def Vf:Opd→Bool
 | .v a=>(ZD a).isEmpty&&!Zsn a
 | _=>true
def Zug (os:List CO) (j i:Nat):Bool:=match os[j]?,os[i]? with
 | some a,some b=>XF a b
 | _,_=>false
def WX:COp→Bool
 | .load _ _ _=>false
 | .store _ _ _ _=>false
 | .slice _ _ _ _=>false
 | .slice0 _ _ _=>false
 | .iaS _ _ _=>false
 | .len _=>false
 | .append _ _ _ _ _ _=>false
 | .buildSl _ _=>false
 | .buildDp _ _ _=>false
 | .appDp _ _ _ _ _=>false
 | .asgDp _ _ _=>false
 | .call _ _=>false
 | .slice3 _ _ _ _ _=>false
 | .clear _ _ _=>false
 | _=>true
def Zae:COp→Bool
 | .load _ _ _=>true
 | .slice _ _ _ _=>true
 | .slice0 _ _ _=>true
 | .iaS _ _ _=>true
 | .len _=>true
 | _=>false
def ZxF:COp→Bool
 | .clear _ _ _=>false
 | .store _ _ _ _=>false
 | .append _ _ _ _ _ _=>false
 | .buildSl _ _=>false
 | .buildDp _ _ _=>false
 | .appDp _ _ _ _ _=>false
 | .asgDp _ _ _=>false
 | .call _ _=>false
 | _=>true
def JL (os:List CO) (k:Nat):Option Nat:=match os[k]? with
 | some o=>o.dst
 | none=>none
def Zuh (os:List CO) (k:Nat):List Nat:=match os[k]? with
 | some o=>looks o
 | none=>[]
def Zb4 (os:List CO) (k:Nat):Bool:=(List.range os.length).all fun q=>decide (q<k) || QQ (JL os q) (Zuh os k)
def Vk:COp→Bool
 | .move _=>true
 | _=>false
def ZfT:COp→Bool
 | .append _ _ _ _ _ _=>true
 | .buildSl _ _=>true
 | _=>false
def Zby:COp→Bool
 | .call (.f _) _=>true
 | _=>false
def Zlu:COp→List Opd
 | .call _ as=>as
 | _=>[]
def ZxG:COp→Bool
 | .alloc _ _=>false
 | .box _=>false
 | .assign _ _=>false
 | .make _ _ _ _ _=>false
 | .fn _ _=>false
 | _=>true
def ZsU:COp→Bool
 | .buildSl _ _=>true
 | _=>false
def Zen:AV→Bool
 | .d _=>true
 | .nil=>true
 | .nilp=>true
 | .nili=>true
 | _=>false
def Wb:List AV→Bool
 | []=>true
 | c :: r=>Zen c&&Wb r
def Zog:COp→Bool
 | .alloc _ cs=>Wb cs
 | _=>false
def Zpj (c:COp):Bool:=Zae c || ZsU c || (WX c&&ZxG c) || Zog c
def Zkj:COp→Bool
 | .alloc _ cs=>Wb cs
 | .buildSl _ _=>true
 | .load _ _ _=>true
 | .nilCheck _=>true
 | .bin _ _ _ _=>true
 | .un _ _=>true
 | .convI _ _=>true
 | .shift _ _=>true
 | .iaS _ _ _=>true
 | .slice _ _ _ _=>true
 | .len _=>true
 | .sliceS _ _ _=>true
 | .lenS _=>true
 | _=>false
def ZCz:Option Nat→Bool
 | some _=>true
 | none=>false
def Zm9 (os:List CO) (k:Nat):Bool:=ZCz (JL os k)&&(List.range os.length).all fun q=>q==k || Zba (JL os q) (JL os k)
def Zkk (os:List CO) (j i:Nat):Bool:=Zb4 os j&&Zb4 os i
def ZBd (os:List CO) (j i:Nat) (a b:COp):Bool:=
 ZxF b || (Zph b&&(WX a || (!Vk a&&Zae a&&Zkk os j i))) || (Vk a&&(ZfT b || Zm9 os j)) || (!Vk a&&Zby b&&Zpj a&&Zkk os j i&&Zm9 os j)
def ZBe (os:List CO) (j i:Nat) (a b:COp):Bool:=(Vk b&&Zm9 os i) || (!Vk b&&Zby a&&Zkj b&&Zkk os j i&&Zm9 os i)
def Zui (os:List CO) (j i:Nat):Bool:=match os[j]?,os[i]? with
 | some a,some b=>if Z0 os j then !Z0 os i&&ZBe os j i a.op b.op else !Z0 os i || ZBd os j i a.op b.op
 | _,_=>false
def ZfU (os:List CO) (j i:Nat):Option (Nat×Nat):=match os[j]?,os[i]? with
 | some a,some b=>if Z0 os j then (if Vk b.op || Zby a.op then some (i,j) else none) else
   if Z0 os i&&(if Zph b.op then !(WX a.op) else if Vk a.op then !(ZfT b.op) else Zby b.op) then some (j,i) else none
 | _,_=>none
def optP:Option (Nat×Nat)→List (Nat×Nat)
 | some p=>[p]
 | none=>[]
def Zdg (ops:Array Oper) (os:List CO):List (Nat×Nat):=
 (List.range ops.size).flatMap fun i=>(List.range i).flatMap fun j=>if Zji ops 6 i j then [] else optP (ZfU os j i)
def Zpk (ops:Array Oper) (os:List CO):Bool:=
 (List.range ops.size).all (fun i=>(WI ops i).all fun e=>decide (e<i)) &&
 (List.range ops.size).all (fun i=>(List.range i).all fun j=>(WI ops i).contains j || Zug os j i) &&
 (List.range ops.size).all (fun i=>(List.range i).all fun j=>Zji ops 6 i j || Zui os j i) &&
 os.all (fun o=>(ZL o.op).all Vf)
def Zdh (id:Nat):AV→Bool
 | .d _=>true
 | .pim _=>true
 | .nil=>true
 | .ptr k _=>k != id
 | .prow k _ _ _=>k != id
 | .own k=>k != id
 | .ownv k _ _=>k != id
 | .nilp=>true
 | .nili=>true
 | .tup []=>true
 | _=>false
def okC:AV→Bool
 | .d _=>true
 | .pim _=>true
 | .nil=>true
 | .ptr _ _=>true
 | .prow _ _ _ _=>true
 | .own _=>true
 | .ownv _ _ _=>true
 | .nilp=>true
 | .nili=>true
 | _=>false
def Zuj:List AV→Bool
 | []=>true
 | v :: r=>okC v&&Zuj r
def okV:AV→Bool
 | .agg cs=>Zuj cs
 | .tup []=>true
 | v=>okC v
def okL (sl:Sl):List Opd→Bool
 | []=>true
 | x :: r=>okV (evO sl x)&&okL sl r
def okD (sl:Sl):Option Nat→Bool
 | some t=>okV (gs sl t)
 | none=>true
def Wc:AV→Option Nat
 | .ptr k _=>some k
 | .prow k _ _ _=>some k
 | _=>none
def Xr (sl:Sl) (id:Nat):List Opd→Bool
 | []=>true
 | x :: r=>Zdh id (evO sl x)&&Xr sl id r
def ZfV (sl:Sl) (a:COp):Option Nat→Bool
 | some id=>Xr sl id (ZL a)
 | none=>false
def Zdi (sl:Sl) (xs:List Opd):AV→Bool
 | .ptr k _=>Xr sl k xs
 | .prow _ _ _ _=>false
 | _=>true
def Zhe (sl:Sl) (xs:List Opd):List Opd→Bool
 | []=>true
 | y :: r=>Zdi sl xs (evO sl y)&&Zhe sl xs r
def Jp (sl:Sl) (a:COp):AV→Bool
 | .nil=>true
 | .tup []=>true
 | .own k=>Xr sl k (ZL a)
 | .ownv k _ _=>Xr sl k (ZL a)
 | .sub k _=>Xr sl k (ZL a)
 | _=>false
def seenSrc (sl:Sl) (a:COp):AV→Bool
 | .own k=>Xr sl k (ZL a)
 | v=>okV v
def JB (sl:Sl) (d:Option Nat):COp→COp→Bool
 | .move _,_=>okD sl d
 | a,.store _ _ x _=>ZfV sl a (Wc (evO sl x))
 | a,.append _ _ _ flat x y=>Jp sl a (evO sl x)&&(flat || seenSrc sl a (evO sl y))
 | a,.call _ as=>okL sl (ZL a)&&(okD sl d&&(okL sl as&&Zhe sl (ZL a) as))
 | _,_=>false
def Zkl (os:List CO) (sl:Sl) (p:Nat×Nat):Bool:=match os[p.1]?,os[p.2]? with
 | some a,some b=>JB sl a.dst a.op b.op
 | _,_=>false
def Jq (os:List CO) (sl:Sl):List (Nat×Nat)→Bool
 | []=>true
 | p :: r=>Zkl os sl p&&Jq os sl r
section
variable (C:Orc) (M:Zp)
noncomputable def Zff (nx:Nat):Nat→List CO→Sl→Hp→Option (Sl×Hp)
 | _,[],sl,hp=>some (sl,hp)
 | i,o :: rest,sl,hp=>bnd (Z6 sl o.guard) fun b=>
   if b then bnd (YQ (nx+64*i) o.dst sl hp (vop C M sl hp (nx+64*i) o.op)) fun r=>Zff nx (i+1) rest r.1 r.2
   else Zff nx (i+1) rest (Zt sl o.dst (.tup [])) hp
def ZfW (c:Zd):List Nat→Hp→List Nat→List Nat→Option Zd
 | [],[],[],[]=>some c
 | _,_,_,_=>none
def Zdj (e:Option Zd):Option Zd:=bnd e fun c=>ZfW c c.gone c.eff.sets c.eff.dels c.eff.frz
noncomputable def WR (nx i:Nat) (tail:Bool) (o:COp) (sl:Sl) (hp:Hp):Option Zd:=
 if tail then vop C M sl hp (nx+64*i) o else Zdj (vop C M sl hp (nx+64*i) o)
noncomputable def UX (nx:Nat):Nat→Bool→List CO→Sl→Hp→Option (Sl×Hp)
 | _,_,[],sl,hp=>some (sl,hp)
 | i,t,o :: rest,sl,hp=>bnd (Z6 sl o.guard) fun b=>
   if b then bnd (YQ (nx+64*i) o.dst sl hp (WR C M nx i (CO.starts o) o.op sl hp)) fun r=>UX nx (i+1) t rest r.1 r.2
   else UX nx (i+1) t rest (Zt sl o.dst (.tup [])) hp
def Zjm {α:Type}:List (Nat×α)→List Nat
 | []=>[]
 | (k,_) :: r=>k :: Zjm r
def only {α:Type} (K:List Nat):List (Nat×α)→List (Nat×α)
 | []=>[]
 | (k,v) :: r=>if K.contains k then (k,v) :: only K r else only K r
def VH:Nat→List Zm→Hp
 | _,[]=>[]
 | k,o :: r=>VH (k+1) r++[(k,o)]
def Zpl:Sl→List Nat
 | []=>[]
 | (_,v) :: r=>ZD v++Zpl r
def Zaf:Option Zm→Bool
 | some _=>true
 | none=>false
def Zeo (hp:Hp) (ids:List Nat) (i:Nat):Bool:=ids.contains i&&Zaf (lkp hp i)
def Zhf (hp:Hp) (ids:List Nat):List Nat→List Nat
 | []=>[]
 | i :: r=>if Zeo hp ids i then Zhf hp ids r else i :: Zhf hp ids r
def Zfg (hp:Hp) (ids:List Nat) (v:AV):AV:=ren (WH ids) (kill (Zhf hp ids (ZD v)) v)
def Zhg (hp:Hp) (ids:List Nat) (o:Zm):Zm:=Zm5 (WH ids) (XZ (Zhf hp ids (ZbH o)) o)
def ZxH:Option Zm→List Nat
 | some o=>ZbH o
 | none=>[]
def WL (hp:Hp):List Nat→List Nat
 | []=>[]
 | id :: r=>ZxH (lkp hp id)++WL hp r
def WM (K:List Nat) (st:St):St:=
 let sl:=only K st.sl
 let ids:=QM st.hp (Xd st.hp) (Zpl sl++WL st.hp (List.range st.m)) (List.range st.m)
 { sl:=Ziv (Zfg st.hp ids) sl,hp:=VH 0 ((Zc6 st.hp ids).map (Zhg st.hp ids)),nx:=ids.length,m:=st.m }
def UY (f:St→Option (Ex×St)) (K:List Nat):Nat→St→Option (Ex×St)
 | 0,_=>none
 | n+1,st=>match f (WM K st) with
  | some (.normal,st')=>UY f K n st'
  | r=>r
def andThen (r:Option (Ex×St)) (k:St→Option (Ex×St)):Option (Ex×St):=match r with
 | some (.normal,st)=>k st
 | r=>r
def Zhh (v:AV) (a b:Option (Ex×St)):Option (Ex×St):=match v with
 | .d (.bool t)=>if t then a else b
 | _=>none
def ZgG (id:Nat) (r:Option (Ex×St)):Option (Ex×St):=match r with
 | some (.exit j,st)=>if j=id then some (.normal,st) else some (.exit j,st)
 | r=>r
def Zpm (ops:List CO) (ps:List (Nat×Nat)) (r:Option (Sl×Hp)):Option (Sl×Hp):=bnd r fun r=>if Jq ops r.1 ps then some r else none
def Zkm (m nx:Nat) (r:Option (Sl×Hp)):Option (Ex×St):=bnd r fun r=>some (.normal,{ sl:=r.1,hp:=r.2,nx:=nx,m:=m })
def ZmM (K:List Nat) (r:Option (Ex×St)):Option (Ex×St):=match r with
 | some q=>some (q.1,{ q.2 with sl:=only K q.2.sl })
 | none=>none
def ZyO (nx n j:Nat):Option Zm→Option Zm
 | some (.deep s k xs _)=>bnd (Zkc xs n j) fun _=>some (.deep s k xs (some (nx,n,j)))
 | _=>none
def Zep (id:Nat) (i:Opd) (j:Nat) (st:St):Option St:=bnd (idx (evO st.sl i)) fun n=>if 0≤n then bnd (ZyO st.nx n.toNat j (lkp st.hp id)) fun o=>some { st with hp:=ins st.hp id o,nx:=st.nx+64 } else none
def Zuk (st:St):St := { st with hp:=Ziv Zda st.hp }
noncomputable def ZG (N:Nat):ZZ→St→Option (Ex×St)
 | .skip,st=>some (.normal,st)
 | .region n none ops,st=>Zkm st.m (st.nx+64*n) (Zff C M st.nx 0 ops st.sl st.hp)
 | .region n (some ps) ops,st=>Zkm st.m (st.nx+64*n) (Zpm ops ps (UX C M st.nx 0 false ops st.sl st.hp))
 | .seq a b,st=>andThen (ZG N a st) (ZG N b)
 | .cond c a b,st=>Zhh (evO st.sl c) (ZG N a st) (ZG N b st)
 | .block id c,st=>ZgG id (ZG N c st)
 | .loop c,st=>UY (ZG N c) (Zjm st.sl) N st
 | .exit id,st=>some (.exit id,st)
 | .ret,st=>some (.ret,st)
 | .keep K c,st=>ZmM K (ZG N c st)
 | .stuck,_=>none
 | .link id i j c,st=>bnd (Zep id i j st) (ZG N c)
 | .melt c,st=>ZG N c (Zuk st)
def Zna (st:St):Zrg→Option AV
 | .tmp t=>some (gs st.sl t)
 | .cell a g s=>UV st.hp g s (gs st.sl a)
def Vl (m:Nat) (hp:Hp) (v:AV):AV×List Zm:=
 let ids:=QM hp (Xd hp) (ZD v++WL hp (List.range m)) (List.range m)
 (Zfg hp ids v,(Zc6 hp ids).map (Zhg hp ids))
def ZyP:AV→Bool
 | .tup _=>true
 | _=>false
def Zjn:List AV→Bool
 | []=>false
 | v :: r=>ZyP v || Zjn r
def Zcq:List AV→AV
 | [v]=>v
 | vs=>if Zjn vs then .junk else .tup vs
def Wd:Nat→List AV→Sl
 | _,[]=>[]
 | k,v :: r=>Wd (k+1) r++[(k,v)]
def Zb5 (m:Nat) (rs:List Zrg) (r:Option (Ex×St)):Option (AV×List Zm):=match r with
 | some (.normal,st)=>bnd (QG (Zna st) rs) fun vs=>some (Vl m st.hp (Zcq vs))
 | some (.ret,st)=>bnd (QG (Zna st) rs) fun vs=>some (Vl m st.hp (Zcq vs))
 | _=>none
noncomputable def Zkn (N:Nat) (fn:Zr) (as:List AV) (h:List Zm):Option (AV×List Zm):=
 if as.length≤fn.nt then Zb5 h.length fn.res (ZG C M N fn.body { sl:=Wd 0 as,hp:=VH 0 h,nx:=h.length,m:=h.length }) else none
end
inductive Fn where
 | text (f:Zr)
 | prim (p:List AV→List Zm→Option (AV×List Zm))
abbrev Fns:=Nat→Option Fn
noncomputable def ZfX (C:Orc) (M:Zp) (N:Nat) (as:List AV) (h:List Zm):Option Fn→Option (AV×List Zm)
 | some (.text f)=>Zkn C M N f as h
 | some (.prim p)=>p as h
 | none=>none
noncomputable def Qo (X:Fns) (M:Zp):Nat→Orc
 | 0,_,_,_=>none
 | n+1,f,as,h=>ZfX (Qo X M n) M n as h (X f)
open Classical in
noncomputable def lim {α:Type} (x:Nat→Option α):Option α:=if h:∃ r,∃ n,x n=some r then some h.choose else none
def Zz0 {α:Type} (x:Nat→Option α):Prop:=∀ n r,x n=some r→x (n+1)=some r
theorem Zz0.le {α:Type} {x:Nat→Option α} (h:Zz0 x) {n m:Nat} {r:α} (hr:x n=some r) (aa:n≤m):x m=some r:=by
 induction aa with
 | refl=>exact hr
 | step _ ih=>exact h _ _ ih
theorem Zjo {α:Type} {x:Nat→Option α} (h:Zz0 x) {n:Nat} {r:α} (hr:x n=some r):lim x=some r:=by
 have he:∃ r,∃ n,x n=some r:=⟨r,n,hr⟩
 unfold lim;rw[dif_pos he];obtain⟨m,hm⟩:=he.choose_spec;have h1:=h.le hm (Kab m n);have h2:=h.le hr (L8 m n);rw[h1] at h2;exact h2
theorem Zhi {α:Type} {x:Nat→Option α} {r:α} (hr:lim x=some r):∃ n,x n=some r:=by
 unfold lim at hr;split at hr
 ·rename_i h;obtain⟨n,hn⟩:=h.choose_spec;exact⟨n,by rw[hn];exact hr⟩
 ·cases hr
def Orc.le (C C' : Orc):Prop:=∀ f as h r,C f as h=some r→C' f as h=some r
section
variable {M:Zp} {C C' : Orc}
theorem Zb6 {α β:Type} {x x' : Option α} {f f' : α→Option β} {r:β} (hx:∀ a,x=some a→x'=some a) (hf:∀ a,f a=some r→f' a=some r) (h:bnd x f=some r):bnd x' f'=some r:=by
 obtain⟨a,h1,h2⟩:=Za h;rw[hx a h1];exact hf a h2
theorem ZBf (h:C.le C') {m:Nat→Bool} {hp:Hp} {base f:Nat} {aa:List AV} {r:Zd}
  (hr:Zcn C m hp base f aa=some r):Zcn C' m hp base f aa=some r:=by
 unfold Zcn at hr ⊢;refine Zb6 (fun _ h=>h) (fun as hr=>?_) hr;unfold ZdY at hr ⊢;by_cases hc:(as.flatMap ZD).all (QM hp (Xd hp) (as.flatMap ZD) []).contains∧¬(YY aa as).any (QM hp (Xd hp) (as.flatMap ZD) []).contains∧Zcy hp (as.flatMap ZbK) (QM hp (Xd hp) (as.flatMap ZD) [])=true
 ·rw[Kh hc] at hr ⊢;exact Zb6 (fun q hq=>h _ _ _ _ hq) (fun _ h=>h) hr
 ·rw[Ke hc] at hr;cases hr
theorem Zul (h:C.le C') {sl:Sl} {hp:Hp} {base:Nat} {o:COp} {r:Zd} (hr:vop C M sl hp base o=some r) :
  vop C' M sl hp base o=some r:=by
 cases o with
 | call f as=>
  simp only[vop] at hr ⊢;cases hg:evO sl f<;>simp only[hg,Zdb] at hr ⊢ <;> first | exact ZBf h hr | exact hr
 | _=>exact hr
theorem Zum (h:C.le C') (nx:Nat):∀ (l:List CO) (i:Nat) (sl:Sl) (hp:Hp) (r:Sl×Hp),
  Zff C M nx i l sl hp=some r→Zff C' M nx i l sl hp=some r:=by
 intro l
 induction l with
 | nil=>intro i sl hp r hr;exact hr
 | cons o rest ih=>
  intro i sl hp r hr;simp only[Zff] at hr ⊢;refine Zb6 (fun _ h=>h) (fun b hr=>?_) hr;cases b
  ·simp only[Ka,Kq] at hr ⊢;exact ih _ _ _ _ hr
  ·simp only[Km] at hr ⊢;refine Zb6 (fun q hq=>?_) (fun q hq=>ih _ _ _ _ hq) hr;unfold YQ at hq ⊢;exact Zb6 (fun e he=>Zul h he) (fun _ h=>h) hq
theorem ZyQ (h:C.le C') {nx i:Nat} {t:Bool} {o:COp} {sl:Sl} {hp:Hp} {e:Zd} (he:WR C M nx i t o sl hp=some e) :
  WR C' M nx i t o sl hp=some e:=by
 unfold WR at he ⊢;cases t
 ·simp only[Ka,Kq,Zdj] at he ⊢;exact Zb6 (fun _ hv=>Zul h hv) (fun _ h=>h) he
 ·simp only[Km] at he ⊢;exact Zul h he
theorem Zko (h:C.le C') (nx:Nat):∀ (l:List CO) (i:Nat) (t:Bool) (sl:Sl) (hp:Hp) (r:Sl×Hp),
  UX C M nx i t l sl hp=some r→UX C' M nx i t l sl hp=some r:=by
 intro l
 induction l with
 | nil=>intro i t sl hp r hr;exact hr
 | cons o rest ih=>
  intro i t sl hp r hr;simp only[UX] at hr ⊢;refine Zb6 (fun _ h=>h) (fun b hr=>?_) hr;cases b
  ·simp only[Ka,Kq] at hr ⊢;exact ih _ _ _ _ _ hr
  ·simp only[Km] at hr ⊢;refine Zb6 (fun q hq=>?_) (fun q hq=>ih _ _ _ _ _ hq) hr;unfold YQ at hq ⊢;exact Zb6 (fun e he=>ZyQ h he) (fun _ h=>h) hq
theorem Zkp {f g:St→Option (Ex×St)} (h:∀ st r,f st=some r→g st=some r) (K:List Nat) :
  ∀ (n m:Nat) (st:St) (r:Ex×St),n≤m→UY f K n st=some r→UY g K m st=some r:=by
 intro n
 induction n with
 | zero=>intro m st r _ hr;simp[UY] at hr
 | succ n ih=>
  intro m st r hm hr;cases m with
  | zero=>omega
  | succ m=>
   simp only[UY] at hr ⊢;cases hf:f (WM K st) with
   | none=>simp[hf] at hr
   | some q=>
    rw[hf] at hr;rw[h _ _ hf];obtain⟨e,aa⟩:=q;cases e with
    | normal=>exact ih m aa r (by omega) hr
    | exit id=>exact hr
    | ret=>exact hr
theorem Zoh (h:C.le C') {N N' : Nat} (hN:N≤N'):∀ (c:ZZ) (st:St) (r:Ex×St),
  ZG C M N c st=some r→ZG C' M N' c st=some r:=by
 intro c
 induction c with
 | skip=>intro st r hr;simpa [ZG] using hr
 | region n draw ops=>
  intro st r hr;cases draw
  ·simp only[ZG,Zkm] at hr ⊢;exact Zb6 (fun q hq=>Zum h _ _ _ _ _ _ hq) (fun _ h=>h) hr
  ·simp only[ZG,Zkm,Zpm] at hr ⊢;exact Zb6 (fun q hq=>Zb6 (fun q hq=>Zko h _ _ _ _ _ _ _ hq) (fun _ h=>h) hq) (fun _ h=>h) hr
 | seq a b iha ihb=>
  intro st r hr;simp only[ZG] at hr ⊢;cases ha:ZG C M N a st with
  | none=>simp[ha,andThen] at hr
  | some q=>
   rw[ha] at hr;rw[iha _ _ ha];obtain⟨e,aa⟩:=q;cases e with
   | normal=>exact ihb _ _ hr
   | exit id=>exact hr
   | ret=>exact hr
 | cond c a b iha ihb=>
  intro st r hr;simp only[ZG,Zhh] at hr ⊢;split at hr
  ·rename_i t ht;cases t
   ·simp only[Ka,Kq] at hr ⊢;exact ihb _ _ hr
   ·simp only[Km] at hr ⊢;exact iha _ _ hr
  ·cases hr
 | block id c ih=>
  intro st r hr;simp only[ZG] at hr ⊢;cases hc:ZG C M N c st with
  | none=>simp[hc,ZgG] at hr
  | some q=>rw[hc] at hr;rw[ih _ _ hc];exact hr
 | loop c ih=>
  intro st r hr;simp only[ZG] at hr ⊢;exact Zkp ih _ _ _ _ _ hN hr
 | exit id=>intro st r hr;simpa [ZG] using hr
 | ret=>intro st r hr;simpa [ZG] using hr
 | keep K c ih=>
  intro st r hr;simp only[ZG] at hr ⊢;cases hc:ZG C M N c st with
  | none=>simp[hc,ZmM] at hr
  | some q=>rw[hc] at hr;rw[ih _ _ hc];exact hr
 | stuck=>intro st r hr;simp[ZG] at hr
 | link id i j c ih=>
  intro st r hr;simp only[ZG] at hr ⊢;obtain⟨aa,h1,h2⟩:=Za hr;rw[h1,Zg];exact ih aa r h2
 | melt c ih=>
  intro st r hr;simp only[ZG] at hr ⊢;exact ih _ r hr
theorem ZBg (h:C.le C') {N N' : Nat} (hN:N≤N') {f:Zr} {as:List AV} {hh:List Zm} {r:AV×List Zm}
  (hr:Zkn C M N f as hh=some r):Zkn C' M N' f as hh=some r:=by
 unfold Zkn at hr ⊢;by_cases hl:as.length≤f.nt
 ·rw[Kh hl] at hr ⊢;cases hv:ZG C M N f.body { sl:=Wd 0 as,hp:=VH 0 hh,nx:=hh.length,m:=hh.length } with
  | none=>simp[hv,Zb5] at hr
  | some q=>rw[hv] at hr;rw[Zoh h hN _ _ _ hv];exact hr
 ·rw[Ke hl] at hr;cases hr
end
section
variable (X:Fns) (M:Zp)
theorem Zlv:∀ n,(Qo X M n).le (Qo X M (n+1)):=by
 intro n
 induction n with
 | zero=>intro f as h r hr;simp[Qo] at hr
 | succ n ih=>
  intro f as h r hr;rw[Qo] at hr ⊢;cases hf:X f with
  | none=>rw[hf] at hr;cases hr
  | some g=>
   rw[hf] at hr;cases g with
   | text g=>exact ZBg ih (Nat.le_succ n) hr
   | prim p=>exact hr
noncomputable def Ze (f:Nat) (as:List AV) (h:List Zm):Option (AV×List Zm):=lim fun n=>Qo X M n f as h
noncomputable def QU (c:ZZ) (st:St):Option (Ex×St):=lim fun n=>ZG (Qo X M n) M n c st
theorem Zd4 (f:Nat) (as:List AV) (h:List Zm):Zz0 fun n=>Qo X M n f as h:=fun n r hr=>Zlv X M n f as h r hr
theorem ZfY (n:Nat):(Qo X M n).le (Ze X M):=fun f as h _ hr=>Zjo (Zd4 X M f as h) hr
theorem Zjp (c:ZZ) (st:St):Zz0 fun n=>ZG (Qo X M n) M n c st:=fun n r hr=>Zoh (Zlv X M n) (Nat.le_succ n) c st r hr
theorem Zdk {n m:Nat} (h:n≤m):(Qo X M n).le (Qo X M m):=fun f as hh _ hr=>(Zd4 X M f as hh).le hr h
theorem ZvV {m:Nat→Bool} {hp:Hp} {base f:Nat} {aa:List AV} {r:Zd}
  (hr:Zcn (Ze X M) m hp base f aa=some r):∃ n,Zcn (Qo X M n) m hp base f aa=some r:=by
 unfold Zcn at hr ⊢;obtain⟨as,ab,hr⟩:=Za hr;simp only[ab,Zg];unfold ZdY at hr ⊢;by_cases hc:(as.flatMap ZD).all (QM hp (Xd hp) (as.flatMap ZD) []).contains∧¬(YY aa as).any (QM hp (Xd hp) (as.flatMap ZD) []).contains∧Zcy hp (as.flatMap ZbK) (QM hp (Xd hp) (as.flatMap ZD) [])=true
 ·rw[Kh hc] at hr;obtain⟨q,hq,hr⟩:=Za hr;obtain⟨n,hn⟩:=Zhi hq;refine⟨n,?_⟩;rw[Kh hc,hn];exact hr
 ·rw[Ke hc] at hr;cases hr
theorem Zlw {sl:Sl} {hp:Hp} {base:Nat} {o:COp} {r:Zd} (hr:vop (Ze X M) M sl hp base o=some r) :
  ∃ n,vop (Qo X M n) M sl hp base o=some r:=by
 cases o with
 | call f as=>
  simp only[vop] at hr ⊢;cases hg:evO sl f<;>simp only[hg,Zdb] at hr ⊢ <;> first | exact ZvV X M hr | exact⟨0,hr⟩
 | _=>exact⟨0,hr⟩
theorem ZxI (nx:Nat):∀ (l:List CO) (i:Nat) (sl:Sl) (hp:Hp) (r:Sl×Hp),
  Zff (Ze X M) M nx i l sl hp=some r→∃ n,Zff (Qo X M n) M nx i l sl hp=some r:=by
 intro l
 induction l with
 | nil=>intro i sl hp r hr;exact⟨0,hr⟩
 | cons o rest ih=>
  intro i sl hp r hr;simp only[Zff] at hr ⊢;obtain⟨b,hb,hr⟩:=Za hr;simp only[hb,Zg];cases b
  ·simp only[Ka,Kq] at hr ⊢;exact ih _ _ _ _ hr
  ·simp only[Km] at hr ⊢;obtain⟨q,hq,hr⟩:=Za hr;unfold YQ at hq;obtain⟨e,he,hq⟩:=Za hq;obtain⟨n1,h1⟩:=Zlw X M he;obtain⟨n2,h2⟩:=ih _ _ _ _ hr;refine⟨max n1 n2,?_⟩;unfold YQ;rw[Zul (Zdk X M (Kab n1 n2)) h1,Zg,hq,Zg];exact Zum (Zdk X M (L8 n1 n2)) _ _ _ _ _ _ h2
theorem ZxJ {nx i:Nat} {t:Bool} {o:COp} {sl:Sl} {hp:Hp} {e:Zd} (he:WR (Ze X M) M nx i t o sl hp=some e) :
  ∃ n,WR (Qo X M n) M nx i t o sl hp=some e:=by
 unfold WR at he ⊢;cases t
 ·simp only[Ka,Kq,Zdj] at he ⊢;obtain⟨e',aa,h2⟩:=Za he;obtain⟨n,hn⟩:=Zlw X M aa;exact⟨n,by rw[hn];exact h2⟩
 ·simp only[Km] at he ⊢;exact Zlw X M he
theorem ZvW (nx:Nat):∀ (l:List CO) (i:Nat) (t:Bool) (sl:Sl) (hp:Hp) (r:Sl×Hp),
  UX (Ze X M) M nx i t l sl hp=some r→∃ n,UX (Qo X M n) M nx i t l sl hp=some r:=by
 intro l
 induction l with
 | nil=>intro i t sl hp r hr;exact⟨0,hr⟩
 | cons o rest ih=>
  intro i t sl hp r hr;simp only[UX] at hr ⊢;obtain⟨b,hb,hr⟩:=Za hr;simp only[hb,Zg];cases b
  ·simp only[Ka,Kq] at hr ⊢;exact ih _ _ _ _ _ hr
  ·simp only[Km] at hr ⊢;obtain⟨q,hq,hr⟩:=Za hr;unfold YQ at hq;obtain⟨e,he,hq⟩:=Za hq;obtain⟨n1,h1⟩:=ZxJ X M he;obtain⟨n2,h2⟩:=ih _ _ _ _ _ hr;refine⟨max n1 n2,?_⟩;unfold YQ;rw[ZyQ (Zdk X M (Kab n1 n2)) h1,Zg,hq,Zg];exact Zko (Zdk X M (L8 n1 n2)) _ _ _ _ _ _ _ h2
theorem Xv {c:ZZ} {st:St} {n:Nat} {r:Ex×St} (h:ZG (Qo X M n) M n c st=some r):QU X M c st=some r:=
 Zjo (Zjp X M c st) h
theorem Vm {α:Type} {x:Nat→Option α} (h:∀ n,x n=none):lim x=none:=by
 cases hx:lim x with
 | none=>rfl
 | some r=>obtain⟨n,hn⟩:=Zhi hx;rw[h n] at hn;cases hn
theorem ZxK (st:St):QU X M .skip st=some (.normal,st):=Xv X M (n:=0) (by simp[ZG])
theorem ZxL (id:Nat) (st:St):QU X M (.exit id) st=some (.exit id,st):=Xv X M (n:=0) (by simp[ZG])
theorem Zz1 (st:St):QU X M .ret st=some (.ret,st):=Xv X M (n:=0) (by simp[ZG])
theorem Zun (n:Nat) (ops:List CO) (st:St) :
  QU X M (.region n none ops) st=Zkm st.m (st.nx+64*n) (Zff (Ze X M) M st.nx 0 ops st.sl st.hp):=by
 cases h:Zff (Ze X M) M st.nx 0 ops st.sl st.hp with
 | some r=>
  obtain⟨k,hk⟩:=ZxI X M _ _ _ _ _ _ h;exact Xv X M (n:=k) (by simp only[ZG,hk,Zkm,Zg])
 | none=>
  refine Vm fun k=>?_;simp only[ZG];cases hn:Zff (Qo X M k) M st.nx 0 ops st.sl st.hp with
  | none=>rfl
  | some r=>rw[Zum (ZfY X M k) _ _ _ _ _ _ hn] at h;cases h
theorem ZxM (n:Nat) (ps:List (Nat×Nat)) (ops:List CO) (st:St) :
  QU X M (.region n (some ps) ops) st=Zkm st.m (st.nx+64*n) (Zpm ops ps (UX (Ze X M) M st.nx 0 false ops st.sl st.hp)):=by
 cases h:UX (Ze X M) M st.nx 0 false ops st.sl st.hp with
 | some r=>
  obtain⟨k,hk⟩:=ZvW X M _ _ _ _ _ _ _ h;cases hs:Zpm ops ps (some r) with
  | none=>
   refine Vm fun k'=>?_;simp only[ZG];cases hn:UX (Qo X M k') M st.nx 0 false ops st.sl st.hp with
   | none=>rfl
   | some r' =>
    have:=Zko (ZfY X M k') _ _ _ _ _ _ _ hn;rw[h] at this;cases this;rw[hs];rfl
  | some r'=>exact Xv X M (n:=k) (by simp only[ZG,hk,hs];rfl)
 | none=>
  refine Vm fun k=>?_;simp only[ZG];cases hn:UX (Qo X M k) M st.nx 0 false ops st.sl st.hp with
  | none=>rfl
  | some r=>rw[Zko (ZfY X M k) _ _ _ _ _ _ _ hn] at h;cases h
theorem Zag {c:ZZ} {st:St} {r:Ex×St} (h:QU X M c st=some r):∃ n,∀ m,n≤m→ZG (Qo X M m) M m c st=some r:=by
 obtain⟨n,hn⟩:=Zhi h;exact⟨n,fun m hm=>(Zjp X M c st).le hn hm⟩
theorem Zz2 (a b:ZZ) (st:St):QU X M (.seq a b) st=andThen (QU X M a st) (QU X M b):=by
 cases ha:QU X M a st with
 | none=>
  refine Vm fun n=>?_;cases h:ZG (Qo X M n) M n a st with
  | none=>simp[ZG,h,andThen]
  | some q=>rw[Xv X M h] at ha;cases ha
 | some q=>
  obtain⟨e,aa⟩:=q;obtain⟨n,hn⟩:=Zag X M ha;cases e with
  | normal=>
   simp only[andThen];cases hb:QU X M b aa with
   | none=>
    refine Vm fun k=>?_;cases h:ZG (Qo X M k) M k (.seq a b) st with
    | none=>rfl
    | some q=>
     have h1:=(Zjp X M (.seq a b) st).le h (Kab k n);simp only[ZG,hn _ (L8 k n),andThen] at h1;rw[Xv X M h1] at hb;cases hb
   | some q=>
    obtain⟨m,hm⟩:=Zag X M hb;refine Xv X M (n:=max n m) ?_;simp only[ZG,hn _ (Kab n m),andThen,hm _ (L8 n m)]
  | exit id=>exact Xv X M (n:=n) (by simp only[ZG,hn _ (Kt n),andThen])
  | ret=>exact Xv X M (n:=n) (by simp only[ZG,hn _ (Kt n),andThen])
theorem ZxN (c:Opd) (a b:ZZ) (st:St) :
  QU X M (.cond c a b) st=Zhh (evO st.sl c) (QU X M a st) (QU X M b st):=by
 unfold Zhh;split
 ·rename_i t h;cases t
  ·simp only[Ka,Kq,QU,ZG,h,Zhh]
  ·simp only[Km,QU,ZG,h,Zhh]
 ·rename_i h;refine Vm fun n=>?_;simp only[ZG,Zhh]
theorem ZvX (id:Nat) (c:ZZ) (st:St):QU X M (.block id c) st=ZgG id (QU X M c st):=by
 cases hc:QU X M c st with
 | none=>
  refine Vm fun n=>?_;cases h:ZG (Qo X M n) M n c st with
  | none=>simp[ZG,h,ZgG]
  | some q=>rw[Xv X M h] at hc;cases hc
 | some q=>
  obtain⟨n,hn⟩:=Zag X M hc;cases hb:ZgG id (some q) with
  | none=>
   obtain⟨e,aa⟩:=q;cases e<;>simp[ZgG] at hb
   split at hb<;>cases hb
  | some r=>exact Xv X M (n:=n) (by simp only[ZG,hn _ (Kt n),hb])
theorem ZxO (K:List Nat) (c:ZZ) (st:St):QU X M (.keep K c) st=ZmM K (QU X M c st):=by
 cases hc:QU X M c st with
 | none=>
  refine Vm fun n=>?_;cases h:ZG (Qo X M n) M n c st with
  | none=>simp[ZG,h,ZmM]
  | some q=>rw[Xv X M h] at hc;cases hc
 | some q=>
  obtain⟨n,hn⟩:=Zag X M hc;exact Xv X M (n:=n) (by simp only[ZG,hn _ (Kt n),ZmM])
theorem ZxP (id:Nat) (i:Opd) (j:Nat) (c:ZZ) (st:St):QU X M (.link id i j c) st=bnd (Zep id i j st) (QU X M c):=by
 cases hl:Zep id i j st with
 | none=>
  refine Vm fun n=>?_;simp only[ZG,hl];rfl
 | some st' =>
  rw[Zg];cases hc:QU X M c st' with
  | none=>
   refine Vm fun n=>?_;cases h:ZG (Qo X M n) M n c st' with
   | none=>simp only[ZG,hl,Zg,h]
   | some q=>rw[Xv X M h] at hc;cases hc
  | some q=>
   obtain⟨n,hn⟩:=Zag X M hc;exact Xv X M (n:=n) (by simp only[ZG,hl,Zg,hn _ (Kt n)])
theorem ZxQ (c:ZZ) (st:St):QU X M (.melt c) st=QU X M c (Zuk st):=by
 cases hc:QU X M c (Zuk st) with
 | none=>
  refine Vm fun n=>?_;cases h:ZG (Qo X M n) M n c (Zuk st) with
  | none=>simp only[ZG,h]
  | some q=>rw[Xv X M h] at hc;cases hc
 | some q=>
  obtain⟨n,hn⟩:=Zag X M hc;exact Xv X M (n:=n) (by simp only[ZG,hn _ (Kt n)])
noncomputable def Zhj (c:ZZ) (K:List Nat) (st:St):Option (Ex×St):=lim fun n=>UY (ZG (Qo X M n) M n c) K n st
theorem Zd5 (c:ZZ) (K:List Nat) (st:St):Zz0 fun n=>UY (ZG (Qo X M n) M n c) K n st:=fun n r hr=>
 Zkp (fun _ _ h=>Zoh (Zlv X M n) (Nat.le_succ n) c _ _ h) K n (n+1) st r (Nat.le_succ n) hr
theorem ZxR (c:ZZ) (st:St):QU X M (.loop c) st=Zhj X M c (Zjm st.sl) st:=by
 simp only[QU,Zhj,ZG]
theorem ZvY {c:ZZ} {K:List Nat} {st aa : St} (h:QU X M c (WM K st)=some (.normal,aa)) :
  Zhj X M c K st=Zhj X M c K aa:=by
 obtain⟨n,hn⟩:=Zag X M h;cases hl:Zhj X M c K aa with
 | none=>
  refine Vm fun k=>?_;cases hk:UY (ZG (Qo X M k) M k c) K k st with
  | none=>rfl
  | some q=>
   have h1:=(Zd5 X M c K st).le hk (show k≤max k n+1 by omega);simp only[UY] at h1;rw[hn (max k n+1) (by omega)] at h1;simp only[] at h1;have h2:=Zkp (fun _ _ h=>h) K (max k n) (max k n+1) aa q (Nat.le_succ _) h1;rw[show Zhj X M c K aa=some q from Zjo (Zd5 X M c K aa) h2] at hl;cases hl
 | some q=>
  obtain⟨m,hm⟩:=Zhi hl;refine Zjo (Zd5 X M c K st) (n:=max n m+1) ?_;simp only[UY,hn (max n m+1) (by omega)];exact Zkp (fun _ _ h=>Zoh (Zdk X M (show m≤max n m+1 by omega)) (show m≤max n m+1 by omega) c _ _ h) K m (max n m) aa q (by omega) hm
theorem Zpn {c:ZZ} {K:List Nat} {st aa : St} {e:Ex} (he:e≠.normal) (h:QU X M c (WM K st)=some (e,aa)) :
  Zhj X M c K st=some (e,aa):=by
 obtain⟨n,hn⟩:=Zag X M h;refine Zjo (Zd5 X M c K st) (n:=n+1) ?_;simp only[UY,hn (n+1) (by omega)];cases e with
 | normal=>exact absurd rfl he
 | exit id=>rfl
 | ret=>rfl
theorem ZBh {f:Nat} {as:List AV} {h:List Zm} {fn:Zr} {r:AV×List Zm} (hx:X f=some (.text fn))
  (hl:as.length≤fn.nt) (hr:Zb5 h.length fn.res (QU X M fn.body { sl:=Wd 0 as,hp:=VH 0 h,nx:=h.length,m:=h.length })=some r) :
  Ze X M f as h=some r:=by
 cases hv:QU X M fn.body { sl:=Wd 0 as,hp:=VH 0 h,nx:=h.length,m:=h.length } with
 | none=>rw[hv] at hr;simp[Zb5] at hr
 | some q=>
  rw[hv] at hr;obtain⟨n,hn⟩:=Zag X M hv;refine Zjo (Zd4 X M f as h) (n:=n+1) ?_;simp only[Qo,hx,ZfX,Zkn,hl,Km,hn n (Kt n)];exact hr
theorem VU {f:Nat} {as:List AV} {h:List Zm} {p:List AV→List Zm→Option (AV×List Zm)} {r:AV×List Zm} (hx:X f=some (.prim p)) (hp:p as h=some r) :
  Ze X M f as h=some r:=
 Zjo (Zd4 X M f as h) (n:=1) (by simp only[Qo,hx,ZfX,hp])
end
section
variable (P:Program)
def UJ (nt:Nat):Code→Option ZZ
 | .skip=>some .skip
 | .region _ ops draw=>bnd (QG (ZmK P nt ops.toList) ops.toList) fun os=>if draw then (if Zpk ops os then some (.region ops.toList.length (some (Zdg ops os)) os) else some .stuck) else some (.region ops.toList.length none os)
 | .seq a b=>bnd (UJ nt a) fun a=>bnd (UJ nt b) fun b=>some (.seq a b)
 | .cond c a b=>bnd (Z5 c) fun c=>bnd (UJ nt a) fun a=>bnd (UJ nt b) fun b=>some (.cond c a b)
 | .block id c=>bnd (UJ nt c) fun c=>some (.block id c)
 | .loop c=>bnd (UJ nt c) fun c=>some (.loop c)
 | .exit id=>some (.exit id)
 | .ret=>some .ret
 | _=>some .stuck
def Zih:COp→COp
 | .buildDp s _ xs=>.buildSl s xs
 | .asgDp s _ x=>.assign (some s) x
 | .appDp s b flat x y=>.append s b false flat x y
 | c=>c
def Zlx:List CO→List CO
 | []=>[]
 | o :: r => { o with op:=Zih o.op } :: Zlx r
def ZxS:Option (List (Nat×Nat))→List CO→List CO
 | none,ops=>Zlx ops
 | some _,ops=>ops
def YR:ZZ→ZZ
 | .keep _ c=>YR c
 | .seq a b=>.seq (YR a) (YR b)
 | .cond c a b=>.cond c (YR a) (YR b)
 | .block id c=>.block id (YR c)
 | .loop c=>.loop (YR c)
 | .region n d ops=>.region n d (ZxS d ops)
 | .link _ _ _ c=>YR c
 | .melt c=>YR c
 | .skip=>.skip
 | .exit id=>.exit id
 | .ret=>.ret
 | .stuck=>.stuck
def Zly (cf:Zr):Zr := { nt:=cf.nt,res:=cf.res,body:=YR cf.body }
def cRes:ResultVar→Option Zrg
 | .tmp t=>some (.tmp t)
 | .cell a t=>bnd (Ze7 P t) fun g=>some (.cell a g (P.cellsOf t))
def cFun (fn:Func):Option Zr:=bnd fn.body fun c=>bnd (UJ P fn.ntmps c) fun b=>bnd (QG (cRes P) fn.results.toList) fun rs=>some { nt:=fn.ntmps,res:=rs,body:=b }
end
end Go.Abs
