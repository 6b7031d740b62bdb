/- The abstract semantics: regions,codes,bodies,calls. Own text. -/
import Derived.Test.YtpobhkoombldlaaGreatAbsOps
set_option linter.unusedVariables false
set_option linter.unusedSimpArgs false
namespace Go.Abs
open Go
inductive Ex where
 | normal
 | exit (id:Nat)
 | ret
def Q8 (lo hi:Nat):Hp→Bool
 | []=>true
 | (k,_) :: r=>decide (lo≤k)&&decide (k<hi)&&Q8 (k+1) hi r
def XM (gone:List Nat) (sl:Sl):Sl:=match gone with
 | []=>sl
 | _=>Zjn (kill gone) sl
def Wj (gone:List Nat) (hp:Hp):Hp:=match gone with
 | []=>hp
 | _=>Zjn (YB gone) hp
def Zw (sl:Sl) (dst:Option Nat) (v:AV):Sl:=match dst with
 | some t=>ins sl t v
 | none=>sl
def Zf.on (e:Zf) (dst:Option Nat) (sl:Sl) (hp:Hp):Sl×Hp:=
 (Zw (XM e.gone sl) dst e.eff.val,e.eff.on (Wj e.gone hp))
def Vz (base:Nat) (dst:Option Nat) (sl:Sl) (hp:Hp) (e:Option Zf):Option (Sl×Hp):=
 bnd e fun e=>if Q8 base (base+64) e.eff.adds then some (e.on dst sl hp) else none
def Zgi (want:Bool):AV→Option Bool
 | .d (.bool b)=>some (b==want)
 | .tup []=>some false
 | _=>none
def Qc (sl:Sl):Option (Nat×Bool)→Option Bool
 | none=>some true
 | some q=>Zgi q.2 (gs sl q.1)
inductive Ze where
 | skip
 | region (n:Nat) (draw:Option (List (Nat×Nat))) (ops:List CO)
 | seq (a b:Ze)
 | cond (c:Opd) (a b:Ze)
 | block (id:Nat) (c:Ze)
 | loop (c:Ze)
 | exit (id:Nat)
 | ret
 | keep (K:List Nat) (c:Ze)
 | stuck
 | link (id:Nat) (i:Opd) (j:Nat) (c:Ze)
 | melt (c:Ze)
inductive ZrD where
 | tmp (t:Nat)
 | cell (a:Nat) (g:Bool) (s:Nat)
structure Zz where
 nt:Nat
 res:List ZrD
 body:Ze
def ZpU (x:Option Opd):List Opd:=match x with
 | some y=>[y]
 | none=>[]
def ZT:COp→List Opd
 | .move x=>[x]
 | .assign _ x=>[x]
 | .pick c a b=>[c,a,b]
 | .alloc _ _=>[]
 | .box x=>[x]
 | .build _ ps=>ps.map fun q=>q.2.2
 | .buildSl _ xs=>xs
 | .load _ _ a=>[a]
 | .store _ _ a x=>[a,x]
 | .nilCheck x=>[x]
 | .bin _ _ x y=>[x,y]
 | .un _ x=>[x]
 | .eqA _ _ x y=>[x,y]
 | .convI _ x=>[x]
 | .convS x=>[x]
 | .fn _ cs=>cs
 | .make _ _ _ l c=>[l,c]
 | .slice _ x lo hi=>x :: (ZpU lo++ZpU hi)
 | .sliceS x lo hi=>x :: (ZpU lo++ZpU hi)
 | .slice0 x hi mx=>[x,hi,mx]
 | .shift _ x=>[x]
 | .part _ _ _ x=>[x]
 | .iaS _ x i=>[x,i]
 | .iaA _ _ x i=>[x,i]
 | .ixS x i=>[x,i]
 | .ixA _ _ _ x i=>[x,i]
 | .nth _ x=>[x]
 | .len x=>[x]
 | .lenS x=>[x]
 | .append _ _ _ _ x y=>[x,y]
 | .min x y=>[x,y]
 | .max x y=>[x,y]
 | .call f as=>f :: as
 | .slice3 _ x lo hi mx=>[x,lo,hi,mx]
 | .clear _ _ x=>[x]
 | .stuck=>[]
 | .buildDp _ _ xs=>xs
 | .appDp _ _ _ x y=>[x,y]
 | .asgDp _ _ x=>[x]
def Zi9:COp→Bool
 | .store _ _ _ _=>true
 | _=>false
def isApp:COp→Bool
 | .append _ _ _ _ _ _=>true
 | _=>false
def ZpV (c:COp):Bool:=Zi9 c || isApp c
def CO.starts (o:CO):Bool:=Zi9 o.op || o.tl
def Z2 (os:List CO) (i:Nat):Bool:=match os[i]? with
 | some o=>CO.starts o
 | none=>false
def ZcY:Opd→List Nat
 | .t n=>[n]
 | _=>[]
def ZpW:Option (Nat×Bool)→List Nat
 | some q=>[q.1]
 | none=>[]
def Wf (o:CO):List Nat:=(ZT o.op).flatMap ZcY++ZpW o.guard
def Q1:Option Nat→List Nat→Bool
 | some d,l=>!l.contains d
 | none,_=>true
def ZbU:Option Nat→Option Nat→Bool
 | some d,some e=>d != e
 | _,_=>true
def Yl (a b:CO):Bool:=Q1 a.dst (Wf b)&&ZbU a.dst b.dst&&Q1 b.dst (Wf a)
def Wk:Opd→Bool
 | .v a=>(ZJ a).isEmpty&&!Zsl a
 | _=>true
def Zt1 (os:List CO) (j i:Nat):Bool:=match os[j]?,os[i]? with
 | some a,some b=>Yl a b
 | _,_=>false
def UH:COp→Bool
 | .load _ _ _=>false
 | .store _ _ _ _=>false
 | .slice _ _ _ _=>false
 | .slice0 _ _ _=>false
 | .iaS _ _ _=>false
 | .len _=>false
 | .append _ _ _ _ _ _=>false
 | .buildSl _ _=>false
 | .buildDp _ _ _=>false
 | .appDp _ _ _ _ _=>false
 | .asgDp _ _ _=>false
 | .call _ _=>false
 | .slice3 _ _ _ _ _=>false
 | .clear _ _ _=>false
 | _=>true
def Za3:COp→Bool
 | .load _ _ _=>true
 | .slice _ _ _ _=>true
 | .slice0 _ _ _=>true
 | .iaS _ _ _=>true
 | .len _=>true
 | _=>false
def Zxd:COp→Bool
 | .clear _ _ _=>false
 | .store _ _ _ _=>false
 | .append _ _ _ _ _ _=>false
 | .buildSl _ _=>false
 | .buildDp _ _ _=>false
 | .appDp _ _ _ _ _=>false
 | .asgDp _ _ _=>false
 | .call _ _=>false
 | _=>true
def ZaI (os:List CO) (k:Nat):Option Nat:=match os[k]? with
 | some o=>o.dst
 | none=>none
def Zt2 (os:List CO) (k:Nat):List Nat:=match os[k]? with
 | some o=>Wf o
 | none=>[]
def ZcZ (os:List CO) (k:Nat):Bool:=(List.range os.length).all fun q=>decide (q<k) || Q1 (ZaI os q) (Zt2 os k)
def Wo:COp→Bool
 | .move _=>true
 | _=>false
def Zgj:COp→Bool
 | .append _ _ _ _ _ _=>true
 | .buildSl _ _=>true
 | _=>false
def Zcm:COp→Bool
 | .call (.f _) _=>true
 | _=>false
def ZmX:COp→List Opd
 | .call _ as=>as
 | _=>[]
def Zxe:COp→Bool
 | .alloc _ _=>false
 | .box _=>false
 | .assign _ _=>false
 | .make _ _ _ _ _=>false
 | .fn _ _=>false
 | _=>true
def ZsT:COp→Bool
 | .buildSl _ _=>true
 | _=>false
def ZhE:AV→Bool
 | .d _=>true
 | .nil=>true
 | .nilp=>true
 | .nili=>true
 | _=>false
def Zcz:List AV→Bool
 | []=>true
 | c :: r=>ZhE c&&Zcz r
def ZoX:COp→Bool
 | .alloc _ cs=>Zcz cs
 | _=>false
def ZpX (c:COp):Bool:=Za3 c || ZsT c || (UH c&&Zxe c) || ZoX c
def ZlD:COp→Bool
 | .alloc _ cs=>Zcz cs
 | .buildSl _ _=>true
 | .load _ _ _=>true
 | .nilCheck _=>true
 | .bin _ _ _ _=>true
 | .un _ _=>true
 | .convI _ _=>true
 | .shift _ _=>true
 | .iaS _ _ _=>true
 | .slice _ _ _ _=>true
 | .len _=>true
 | .sliceS _ _ _=>true
 | .lenS _=>true
 | _=>false
def ZCi:Option Nat→Bool
 | some _=>true
 | none=>false
def Zoj (os:List CO) (k:Nat):Bool:=ZCi (ZaI os k)&&(List.range os.length).all fun q=>q==k || ZbU (ZaI os q) (ZaI os k)
def ZlE (os:List CO) (j i:Nat):Bool:=ZcZ os j&&ZcZ os i
def ZAf (os:List CO) (j i:Nat) (a b:COp):Bool:=
 Zxd b || (ZpV b&&(UH a || (!Wo a&&Za3 a&&ZlE os j i))) || (Wo a&&(Zgj b || Zoj os j)) || (!Wo a&&Zcm b&&ZpX a&&ZlE os j i&&Zoj os j)
def ZAg (os:List CO) (j i:Nat) (a b:COp):Bool:=(Wo b&&Zoj os i) || (!Wo b&&Zcm a&&ZlD b&&ZlE os j i&&Zoj os i)
def Zt3 (os:List CO) (j i:Nat):Bool:=match os[j]?,os[i]? with
 | some a,some b=>if Z2 os j then !Z2 os i&&ZAg os j i a.op b.op else !Z2 os i || ZAf os j i a.op b.op
 | _,_=>false
def Zgk (os:List CO) (j i:Nat):Option (Nat×Nat):=match os[j]?,os[i]? with
 | some a,some b=>if Z2 os j then (if Wo b.op || Zcm a.op then some (i,j) else none) else
   if Z2 os i&&(if ZpV b.op then !(UH a.op) else if Wo a.op then !(Zgj b.op) else Zcm b.op) then some (j,i) else none
 | _,_=>none
def optP:Option (Nat×Nat)→List (Nat×Nat)
 | some p=>[p]
 | none=>[]
def Zd5 (ops:Array Oper) (os:List CO):List (Nat×Nat):=
 (List.range ops.size).flatMap fun i=>(List.range i).flatMap fun j=>if ZkL ops 6 i j then [] else optP (Zgk os j i)
def ZpY (ops:Array Oper) (os:List CO):Bool:=
 (List.range ops.size).all (fun i=>(Uz ops i).all fun e=>decide (e<i)) &&
 (List.range ops.size).all (fun i=>(List.range i).all fun j=>(Uz ops i).contains j || Zt1 os j i) &&
 (List.range ops.size).all (fun i=>(List.range i).all fun j=>ZkL ops 6 i j || Zt3 os j i) &&
 os.all (fun o=>(ZT o.op).all Wk)
def Zd6 (id:Nat):AV→Bool
 | .d _=>true
 | .pim _=>true
 | .nil=>true
 | .ptr k _=>k != id
 | .prow k _ _ _=>k != id
 | .own k=>k != id
 | .ownv k _ _=>k != id
 | .nilp=>true
 | .nili=>true
 | .tup []=>true
 | _=>false
def okC:AV→Bool
 | .d _=>true
 | .pim _=>true
 | .nil=>true
 | .ptr _ _=>true
 | .prow _ _ _ _=>true
 | .own _=>true
 | .ownv _ _ _=>true
 | .nilp=>true
 | .nili=>true
 | _=>false
def Zt4:List AV→Bool
 | []=>true
 | v :: r=>okC v&&Zt4 r
def okV:AV→Bool
 | .agg cs=>Zt4 cs
 | .tup []=>true
 | v=>okC v
def okL (sl:Sl):List Opd→Bool
 | []=>true
 | x :: r=>okV (evO sl x)&&okL sl r
def okD (sl:Sl):Option Nat→Bool
 | some t=>okV (gs sl t)
 | none=>true
def W9:AV→Option Nat
 | .ptr k _=>some k
 | .prow k _ _ _=>some k
 | _=>none
def X9 (sl:Sl) (id:Nat):List Opd→Bool
 | []=>true
 | x :: r=>Zd6 id (evO sl x)&&X9 sl id r
def Zgl (sl:Sl) (a:COp):Option Nat→Bool
 | some id=>X9 sl id (ZT a)
 | none=>false
def Zd7 (sl:Sl) (xs:List Opd):AV→Bool
 | .ptr k _=>X9 sl k xs
 | .prow _ _ _ _=>false
 | _=>true
def ZhF (sl:Sl) (xs:List Opd):List Opd→Bool
 | []=>true
 | y :: r=>Zd7 sl xs (evO sl y)&&ZhF sl xs r
def Zap (sl:Sl) (a:COp):AV→Bool
 | .nil=>true
 | .tup []=>true
 | .own k=>X9 sl k (ZT a)
 | .ownv k _ _=>X9 sl k (ZT a)
 | .sub k _=>X9 sl k (ZT a)
 | _=>false
def seenSrc (sl:Sl) (a:COp):AV→Bool
 | .own k=>X9 sl k (ZT a)
 | v=>okV v
def ZaD (sl:Sl) (d:Option Nat):COp→COp→Bool
 | .move _,_=>okD sl d
 | a,.store _ _ x _=>Zgl sl a (W9 (evO sl x))
 | a,.append _ _ _ flat x y=>Zap sl a (evO sl x)&&(flat || seenSrc sl a (evO sl y))
 | a,.call _ as=>okL sl (ZT a)&&(okD sl d&&(okL sl as&&ZhF sl (ZT a) as))
 | _,_=>false
def ZlF (os:List CO) (sl:Sl) (p:Nat×Nat):Bool:=match os[p.1]?,os[p.2]? with
 | some a,some b=>ZaD sl a.dst a.op b.op
 | _,_=>false
def Zaq (os:List CO) (sl:Sl):List (Nat×Nat)→Bool
 | []=>true
 | p :: r=>ZlF os sl p&&Zaq os sl r
section
variable (C:Orc) (M:Zu)
noncomputable def Zfx (nx:Nat):Nat→List CO→Sl→Hp→Option (Sl×Hp)
 | _,[],sl,hp=>some (sl,hp)
 | i,o :: rest,sl,hp=>bnd (Qc sl o.guard) fun b=>
   if b then bnd (Vz (nx+64*i) o.dst sl hp (vop C M sl hp (nx+64*i) o.op)) fun r=>Zfx nx (i+1) rest r.1 r.2
   else Zfx nx (i+1) rest (Zw sl o.dst (.tup [])) hp
def Zgm (c:Zf):List Nat→Hp→List Nat→List Nat→Option Zf
 | [],[],[],[]=>some c
 | _,_,_,_=>none
def Zd8 (e:Option Zf):Option Zf:=bnd e fun c=>Zgm c c.gone c.eff.sets c.eff.dels c.eff.frz
noncomputable def UD (nx i:Nat) (tail:Bool) (o:COp) (sl:Sl) (hp:Hp):Option Zf:=
 if tail then vop C M sl hp (nx+64*i) o else Zd8 (vop C M sl hp (nx+64*i) o)
noncomputable def JX (nx:Nat):Nat→Bool→List CO→Sl→Hp→Option (Sl×Hp)
 | _,_,[],sl,hp=>some (sl,hp)
 | i,t,o :: rest,sl,hp=>bnd (Qc sl o.guard) fun b=>
   if b then bnd (Vz (nx+64*i) o.dst sl hp (UD C M nx i (CO.starts o) o.op sl hp)) fun r=>JX nx (i+1) t rest r.1 r.2
   else JX nx (i+1) t rest (Zw sl o.dst (.tup [])) hp
def ZkN {α:Type}:List (Nat×α)→List Nat
 | []=>[]
 | (k,_) :: r=>k :: ZkN r
def only {α:Type} (K:List Nat):List (Nat×α)→List (Nat×α)
 | []=>[]
 | (k,v) :: r=>if K.contains k then (k,v) :: only K r else only K r
def Uu:Nat→List Zt→Hp
 | _,[]=>[]
 | k,o :: r=>Uu (k+1) r++[(k,o)]
def ZpZ:Sl→List Nat
 | []=>[]
 | (_,v) :: r=>ZJ v++ZpZ r
def Za4:Option Zt→Bool
 | some _=>true
 | none=>false
def ZeZ (hp:Hp) (ids:List Nat) (i:Nat):Bool:=ids.contains i&&Za4 (lkp hp i)
def ZhG (hp:Hp) (ids:List Nat):List Nat→List Nat
 | []=>[]
 | i :: r=>if ZeZ hp ids i then ZhG hp ids r else i :: ZhG hp ids r
def Zfy (hp:Hp) (ids:List Nat) (v:AV):AV:=ren (Uy ids) (kill (ZhG hp ids (ZJ v)) v)
def ZhH (hp:Hp) (ids:List Nat) (o:Zt):Zt:=Zoi (Uy ids) (YB (ZhG hp ids (Zcv o)) o)
def Zxf:Option Zt→List Nat
 | some o=>Zcv o
 | none=>[]
def UC (hp:Hp):List Nat→List Nat
 | []=>[]
 | id :: r=>Zxf (lkp hp id)++UC hp r
def JL (K:List Nat) (st:St):St:=
 let sl:=only K st.sl
 let ids:=Q0 st.hp (XL st.hp) (ZpZ sl++UC st.hp (List.range st.m)) (List.range st.m)
 { sl:=Zjn (Zfy st.hp ids) sl,hp:=Uu 0 ((ZdV st.hp ids).map (ZhH st.hp ids)),nx:=ids.length,m:=st.m }
def JY (f:St→Option (Ex×St)) (K:List Nat):Nat→St→Option (Ex×St)
 | 0,_=>none
 | n+1,st=>match f (JL K st) with
  | some (.normal,st')=>JY f K n st'
  | r=>r
def andThen (r:Option (Ex×St)) (k:St→Option (Ex×St)):Option (Ex×St):=match r with
 | some (.normal,st)=>k st
 | r=>r
def ZhI (v:AV) (a b:Option (Ex×St)):Option (Ex×St):=match v with
 | .d (.bool t)=>if t then a else b
 | _=>none
def ZgF (id:Nat) (r:Option (Ex×St)):Option (Ex×St):=match r with
 | some (.exit j,st)=>if j=id then some (.normal,st) else some (.exit j,st)
 | r=>r
def Zp0 (ops:List CO) (ps:List (Nat×Nat)) (r:Option (Sl×Hp)):Option (Sl×Hp):=bnd r fun r=>if Zaq ops r.1 ps then some r else none
def ZlG (m nx:Nat) (r:Option (Sl×Hp)):Option (Ex×St):=bnd r fun r=>some (.normal,{ sl:=r.1,hp:=r.2,nx:=nx,m:=m })
def ZnS (K:List Nat) (r:Option (Ex×St)):Option (Ex×St):=match r with
 | some q=>some (q.1,{ q.2 with sl:=only K q.2.sl })
 | none=>none
def Zye (nx n j:Nat):Option Zt→Option Zt
 | some (.deep s k xs _)=>bnd (Zlw xs n j) fun _=>some (.deep s k xs (some (nx,n,j)))
 | _=>none
def Ze0 (id:Nat) (i:Opd) (j:Nat) (st:St):Option St:=bnd (idx (evO st.sl i)) fun n=>if 0≤n then bnd (Zye st.nx n.toNat j (lkp st.hp id)) fun o=>some { st with hp:=ins st.hp id o,nx:=st.nx+64 } else none
def Zt5 (st:St):St := { st with hp:=Zjn ZdZ st.hp }
noncomputable def ZM (N:Nat):Ze→St→Option (Ex×St)
 | .skip,st=>some (.normal,st)
 | .region n none ops,st=>ZlG st.m (st.nx+64*n) (Zfx C M st.nx 0 ops st.sl st.hp)
 | .region n (some ps) ops,st=>ZlG st.m (st.nx+64*n) (Zp0 ops ps (JX C M st.nx 0 false ops st.sl st.hp))
 | .seq a b,st=>andThen (ZM N a st) (ZM N b)
 | .cond c a b,st=>ZhI (evO st.sl c) (ZM N a st) (ZM N b st)
 | .block id c,st=>ZgF id (ZM N c st)
 | .loop c,st=>JY (ZM N c) (ZkN st.sl) N st
 | .exit id,st=>some (.exit id,st)
 | .ret,st=>some (.ret,st)
 | .keep K c,st=>ZnS K (ZM N c st)
 | .stuck,_=>none
 | .link id i j c,st=>bnd (Ze0 id i j st) (ZM N c)
 | .melt c,st=>ZM N c (Zt5 st)
def Zok (st:St):ZrD→Option AV
 | .tmp t=>some (gs st.sl t)
 | .cell a g s=>JU st.hp g s (gs st.sl a)
def Wp (m:Nat) (hp:Hp) (v:AV):AV×List Zt:=
 let ids:=Q0 hp (XL hp) (ZJ v++UC hp (List.range m)) (List.range m)
 (Zfy hp ids v,(ZdV hp ids).map (ZhH hp ids))
def Zyf:AV→Bool
 | .tup _=>true
 | _=>false
def ZkO:List AV→Bool
 | []=>false
 | v :: r=>Zyf v || ZkO r
def Zdg:List AV→AV
 | [v]=>v
 | vs=>if ZkO vs then .junk else .tup vs
def UI:Nat→List AV→Sl
 | _,[]=>[]
 | k,v :: r=>UI (k+1) r++[(k,v)]
def Zc0 (m:Nat) (rs:List ZrD) (r:Option (Ex×St)):Option (AV×List Zt):=match r with
 | some (.normal,st)=>bnd (QV (Zok st) rs) fun vs=>some (Wp m st.hp (Zdg vs))
 | some (.ret,st)=>bnd (QV (Zok st) rs) fun vs=>some (Wp m st.hp (Zdg vs))
 | _=>none
noncomputable def ZlH (N:Nat) (fn:Zz) (as:List AV) (h:List Zt):Option (AV×List Zt):=
 if as.length≤fn.nt then Zc0 h.length fn.res (ZM C M N fn.body { sl:=UI 0 as,hp:=Uu 0 h,nx:=h.length,m:=h.length }) else none
end
inductive Fn where
 | text (f:Zz)
 | prim (p:List AV→List Zt→Option (AV×List Zt))
abbrev Fns:=Nat→Option Fn
noncomputable def Zgn (C:Orc) (M:Zu) (N:Nat) (as:List AV) (h:List Zt):Option Fn→Option (AV×List Zt)
 | some (.text f)=>ZlH C M N f as h
 | some (.prim p)=>p as h
 | none=>none
noncomputable def Qq (X:Fns) (M:Zu):Nat→Orc
 | 0,_,_,_=>none
 | n+1,f,as,h=>Zgn (Qq X M n) M n as h (X f)
open Classical in
noncomputable def lim {α:Type} (x:Nat→Option α):Option α:=if h:∃ r,∃ n,x n=some r then some h.choose else none
def Zy8 {α:Type} (x:Nat→Option α):Prop:=∀ n r,x n=some r→x (n+1)=some r
theorem Zy8.le {α:Type} {x:Nat→Option α} (h:Zy8 x) {n m:Nat} {r:α} (hr:x n=some r) (hnm:n≤m):x m=some r:=by
 induction hnm with
 | refl=>exact hr
 | step _ ih=>exact h _ _ ih
theorem ZkP {α:Type} {x:Nat→Option α} (h:Zy8 x) {n:Nat} {r:α} (hr:x n=some r):lim x=some r:=by
 have he:∃ r,∃ n,x n=some r:=⟨r,n,hr⟩
 unfold lim
 rw[dif_pos he]
 obtain⟨m,hm⟩:=he.choose_spec
 have h1:=h.le hm (Nat.le_max_left m n)
 have h2:=h.le hr (Nat.le_max_right m n)
 rw[h1] at h2
 exact h2
theorem ZhJ {α:Type} {x:Nat→Option α} {r:α} (hr:lim x=some r):∃ n,x n=some r:=by
 unfold lim at hr
 split at hr
 ·rename_i h
  obtain⟨n,hn⟩:=h.choose_spec
  exact⟨n,by rw[hn];exact hr⟩
 ·cases hr
def Orc.le (C C' : Orc):Prop:=∀ f as h r,C f as h=some r→C' f as h=some r
section
variable {M:Zu} {C C' : Orc}
theorem Zc1 {α β:Type} {x x' : Option α} {f f' : α→Option β} {r:β} (hx:∀ a,x=some a→x'=some a) (hf:∀ a,f a=some r→f' a=some r) (h:bnd x f=some r):bnd x' f'=some r:=by
 obtain⟨a,h1,h2⟩:=Za h
 rw[hx a h1];exact hf a h2
theorem ZAh (h:C.le C') {m:Nat→Bool} {hp:Hp} {base f:Nat} {avs:List AV} {r:Zf}
  (hr:Zde C m hp base f avs=some r):Zde C' m hp base f avs=some r:=by
 unfold Zde at hr ⊢
 refine Zc1 (fun _ h=>h) (fun as hr=>?_) hr
 unfold Zev at hr ⊢
 by_cases hc:(as.flatMap ZJ).all (Q0 hp (XL hp) (as.flatMap ZJ) []).contains∧¬(VX avs as).any (Q0 hp (XL hp) (as.flatMap ZJ) []).contains∧Zdm hp (as.flatMap Zcy) (Q0 hp (XL hp) (as.flatMap ZJ) [])=true
 ·rw[if_pos hc] at hr ⊢
  exact Zc1 (fun q hq=>h _ _ _ _ hq) (fun _ h=>h) hr
 ·rw[if_neg hc] at hr;cases hr
theorem Zt6 (h:C.le C') {sl:Sl} {hp:Hp} {base:Nat} {o:COp} {r:Zf} (hr:vop C M sl hp base o=some r) :
  vop C' M sl hp base o=some r:=by
 cases o with
 | call f as=>
  simp only[vop] at hr ⊢
  cases hg:evO sl f<;>simp only[hg,Zd0] at hr ⊢ <;> first | exact ZAh h hr | exact hr
 | _=>exact hr
theorem Zt7 (h:C.le C') (nx:Nat):∀ (l:List CO) (i:Nat) (sl:Sl) (hp:Hp) (r:Sl×Hp),
  Zfx C M nx i l sl hp=some r→Zfx C' M nx i l sl hp=some r:=by
 intro l
 induction l with
 | nil=>intro i sl hp r hr;exact hr
 | cons o rest ih=>
  intro i sl hp r hr
  simp only[Zfx] at hr ⊢
  refine Zc1 (fun _ h=>h) (fun b hr=>?_) hr
  cases b
  ·simp only[Bool.false_eq_true,if_false] at hr ⊢
   exact ih _ _ _ _ hr
  ·simp only[if_true] at hr ⊢
   refine Zc1 (fun q hq=>?_) (fun q hq=>ih _ _ _ _ hq) hr
   unfold Vz at hq ⊢
   exact Zc1 (fun e he=>Zt6 h he) (fun _ h=>h) hq
theorem Zyg (h:C.le C') {nx i:Nat} {t:Bool} {o:COp} {sl:Sl} {hp:Hp} {e:Zf} (he:UD C M nx i t o sl hp=some e) :
  UD C' M nx i t o sl hp=some e:=by
 unfold UD at he ⊢
 cases t
 ·simp only[Bool.false_eq_true,if_false,Zd8] at he ⊢
  exact Zc1 (fun _ hv=>Zt6 h hv) (fun _ h=>h) he
 ·simp only[if_true] at he ⊢
  exact Zt6 h he
theorem ZlI (h:C.le C') (nx:Nat):∀ (l:List CO) (i:Nat) (t:Bool) (sl:Sl) (hp:Hp) (r:Sl×Hp),
  JX C M nx i t l sl hp=some r→JX C' M nx i t l sl hp=some r:=by
 intro l
 induction l with
 | nil=>intro i t sl hp r hr;exact hr
 | cons o rest ih=>
  intro i t sl hp r hr
  simp only[JX] at hr ⊢
  refine Zc1 (fun _ h=>h) (fun b hr=>?_) hr
  cases b
  ·simp only[Bool.false_eq_true,if_false] at hr ⊢
   exact ih _ _ _ _ _ hr
  ·simp only[if_true] at hr ⊢
   refine Zc1 (fun q hq=>?_) (fun q hq=>ih _ _ _ _ _ hq) hr
   unfold Vz at hq ⊢
   exact Zc1 (fun e he=>Zyg h he) (fun _ h=>h) hq
theorem ZlJ {f g:St→Option (Ex×St)} (h:∀ st r,f st=some r→g st=some r) (K:List Nat) :
  ∀ (n m:Nat) (st:St) (r:Ex×St),n≤m→JY f K n st=some r→JY g K m st=some r:=by
 intro n
 induction n with
 | zero=>intro m st r _ hr;simp[JY] at hr
 | succ n ih=>
  intro m st r hm hr
  cases m with
  | zero=>omega
  | succ m=>
   simp only[JY] at hr ⊢
   cases hf:f (JL K st) with
   | none=>simp[hf] at hr
   | some q=>
    rw[hf] at hr
    rw[h _ _ hf]
    obtain⟨e,st'⟩:=q
    cases e with
    | normal=>exact ih m st' r (by omega) hr
    | exit id=>exact hr
    | ret=>exact hr
theorem ZoY (h:C.le C') {N N' : Nat} (hN:N≤N'):∀ (c:Ze) (st:St) (r:Ex×St),
  ZM C M N c st=some r→ZM C' M N' c st=some r:=by
 intro c
 induction c with
 | skip=>intro st r hr;simpa [ZM] using hr
 | region n draw ops=>
  intro st r hr
  cases draw
  ·simp only[ZM,ZlG] at hr ⊢
   exact Zc1 (fun q hq=>Zt7 h _ _ _ _ _ _ hq) (fun _ h=>h) hr
  ·simp only[ZM,ZlG,Zp0] at hr ⊢
   exact Zc1 (fun q hq=>Zc1 (fun q hq=>ZlI h _ _ _ _ _ _ _ hq) (fun _ h=>h) hq) (fun _ h=>h) hr
 | seq a b iha ihb=>
  intro st r hr
  simp only[ZM] at hr ⊢
  cases ha:ZM C M N a st with
  | none=>simp[ha,andThen] at hr
  | some q=>
   rw[ha] at hr
   rw[iha _ _ ha]
   obtain⟨e,st'⟩:=q
   cases e with
   | normal=>exact ihb _ _ hr
   | exit id=>exact hr
   | ret=>exact hr
 | cond c a b iha ihb=>
  intro st r hr
  simp only[ZM,ZhI] at hr ⊢
  split at hr
  ·rename_i t ht
   cases t
   ·simp only[Bool.false_eq_true,if_false] at hr ⊢;exact ihb _ _ hr
   ·simp only[if_true] at hr ⊢;exact iha _ _ hr
  ·cases hr
 | block id c ih=>
  intro st r hr
  simp only[ZM] at hr ⊢
  cases hc:ZM C M N c st with
  | none=>simp[hc,ZgF] at hr
  | some q=>rw[hc] at hr;rw[ih _ _ hc];exact hr
 | loop c ih=>
  intro st r hr
  simp only[ZM] at hr ⊢
  exact ZlJ ih _ _ _ _ _ hN hr
 | exit id=>intro st r hr;simpa [ZM] using hr
 | ret=>intro st r hr;simpa [ZM] using hr
 | keep K c ih=>
  intro st r hr
  simp only[ZM] at hr ⊢
  cases hc:ZM C M N c st with
  | none=>simp[hc,ZnS] at hr
  | some q=>rw[hc] at hr;rw[ih _ _ hc];exact hr
 | stuck=>intro st r hr;simp[ZM] at hr
 | link id i j c ih=>
  intro st r hr
  simp only[ZM] at hr ⊢
  obtain⟨st',h1,h2⟩:=Za hr
  rw[h1,Zj]
  exact ih st' r h2
 | melt c ih=>
  intro st r hr
  simp only[ZM] at hr ⊢
  exact ih _ r hr
theorem ZAi (h:C.le C') {N N' : Nat} (hN:N≤N') {f:Zz} {as:List AV} {hh:List Zt} {r:AV×List Zt}
  (hr:ZlH C M N f as hh=some r):ZlH C' M N' f as hh=some r:=by
 unfold ZlH at hr ⊢
 by_cases hl:as.length≤f.nt
 ·rw[if_pos hl] at hr ⊢
  cases hv:ZM C M N f.body { sl:=UI 0 as,hp:=Uu 0 hh,nx:=hh.length,m:=hh.length } with
  | none=>simp[hv,Zc0] at hr
  | some q=>rw[hv] at hr;rw[ZoY h hN _ _ _ hv];exact hr
 ·rw[if_neg hl] at hr;cases hr
end
section
variable (X:Fns) (M:Zu)
theorem ZmY:∀ n,(Qq X M n).le (Qq X M (n+1)):=by
 intro n
 induction n with
 | zero=>intro f as h r hr;simp[Qq] at hr
 | succ n ih=>
  intro f as h r hr
  rw[Qq] at hr ⊢
  cases hf:X f with
  | none=>rw[hf] at hr;cases hr
  | some g=>
   rw[hf] at hr
   cases g with
   | text g=>exact ZAi ih (Nat.le_succ n) hr
   | prim p=>exact hr
noncomputable def Zg (f:Nat) (as:List AV) (h:List Zt):Option (AV×List Zt):=lim fun n=>Qq X M n f as h
noncomputable def Q4 (c:Ze) (st:St):Option (Ex×St):=lim fun n=>ZM (Qq X M n) M n c st
theorem ZeC (f:Nat) (as:List AV) (h:List Zt):Zy8 fun n=>Qq X M n f as h:=fun n r hr=>ZmY X M n f as h r hr
theorem Zgo (n:Nat):(Qq X M n).le (Zg X M):=fun f as h _ hr=>ZkP (ZeC X M f as h) hr
theorem ZkQ (c:Ze) (st:St):Zy8 fun n=>ZM (Qq X M n) M n c st:=fun n r hr=>ZoY (ZmY X M n) (Nat.le_succ n) c st r hr
theorem Zd9 {n m:Nat} (h:n≤m):(Qq X M n).le (Qq X M m):=fun f as hh _ hr=>(ZeC X M f as hh).le hr h
theorem ZvE {m:Nat→Bool} {hp:Hp} {base f:Nat} {avs:List AV} {r:Zf}
  (hr:Zde (Zg X M) m hp base f avs=some r):∃ n,Zde (Qq X M n) m hp base f avs=some r:=by
 unfold Zde at hr ⊢
 obtain⟨as,has,hr⟩:=Za hr
 simp only[has,Zj]
 unfold Zev at hr ⊢
 by_cases hc:(as.flatMap ZJ).all (Q0 hp (XL hp) (as.flatMap ZJ) []).contains∧¬(VX avs as).any (Q0 hp (XL hp) (as.flatMap ZJ) []).contains∧Zdm hp (as.flatMap Zcy) (Q0 hp (XL hp) (as.flatMap ZJ) [])=true
 ·rw[if_pos hc] at hr
  obtain⟨q,hq,hr⟩:=Za hr
  obtain⟨n,hn⟩:=ZhJ hq
  refine⟨n,?_⟩
  rw[if_pos hc,hn]
  exact hr
 ·rw[if_neg hc] at hr;cases hr
theorem ZmZ {sl:Sl} {hp:Hp} {base:Nat} {o:COp} {r:Zf} (hr:vop (Zg X M) M sl hp base o=some r) :
  ∃ n,vop (Qq X M n) M sl hp base o=some r:=by
 cases o with
 | call f as=>
  simp only[vop] at hr ⊢
  cases hg:evO sl f<;>simp only[hg,Zd0] at hr ⊢ <;> first | exact ZvE X M hr | exact⟨0,hr⟩
 | _=>exact⟨0,hr⟩
theorem Zxg (nx:Nat):∀ (l:List CO) (i:Nat) (sl:Sl) (hp:Hp) (r:Sl×Hp),
  Zfx (Zg X M) M nx i l sl hp=some r→∃ n,Zfx (Qq X M n) M nx i l sl hp=some r:=by
 intro l
 induction l with
 | nil=>intro i sl hp r hr;exact⟨0,hr⟩
 | cons o rest ih=>
  intro i sl hp r hr
  simp only[Zfx] at hr ⊢
  obtain⟨b,hb,hr⟩:=Za hr
  simp only[hb,Zj]
  cases b
  ·simp only[Bool.false_eq_true,if_false] at hr ⊢
   exact ih _ _ _ _ hr
  ·simp only[if_true] at hr ⊢
   obtain⟨q,hq,hr⟩:=Za hr
   unfold Vz at hq
   obtain⟨e,he,hq⟩:=Za hq
   obtain⟨n1,h1⟩:=ZmZ X M he
   obtain⟨n2,h2⟩:=ih _ _ _ _ hr
   refine⟨max n1 n2,?_⟩
   unfold Vz
   rw[Zt6 (Zd9 X M (Nat.le_max_left n1 n2)) h1,Zj,hq,Zj]
   exact Zt7 (Zd9 X M (Nat.le_max_right n1 n2)) _ _ _ _ _ _ h2
theorem Zxh {nx i:Nat} {t:Bool} {o:COp} {sl:Sl} {hp:Hp} {e:Zf} (he:UD (Zg X M) M nx i t o sl hp=some e) :
  ∃ n,UD (Qq X M n) M nx i t o sl hp=some e:=by
 unfold UD at he ⊢
 cases t
 ·simp only[Bool.false_eq_true,if_false,Zd8] at he ⊢
  obtain⟨e',he',h2⟩:=Za he
  obtain⟨n,hn⟩:=ZmZ X M he'
  exact⟨n,by rw[hn];exact h2⟩
 ·simp only[if_true] at he ⊢
  exact ZmZ X M he
theorem ZvF (nx:Nat):∀ (l:List CO) (i:Nat) (t:Bool) (sl:Sl) (hp:Hp) (r:Sl×Hp),
  JX (Zg X M) M nx i t l sl hp=some r→∃ n,JX (Qq X M n) M nx i t l sl hp=some r:=by
 intro l
 induction l with
 | nil=>intro i t sl hp r hr;exact⟨0,hr⟩
 | cons o rest ih=>
  intro i t sl hp r hr
  simp only[JX] at hr ⊢
  obtain⟨b,hb,hr⟩:=Za hr
  simp only[hb,Zj]
  cases b
  ·simp only[Bool.false_eq_true,if_false] at hr ⊢
   exact ih _ _ _ _ _ hr
  ·simp only[if_true] at hr ⊢
   obtain⟨q,hq,hr⟩:=Za hr
   unfold Vz at hq
   obtain⟨e,he,hq⟩:=Za hq
   obtain⟨n1,h1⟩:=Zxh X M he
   obtain⟨n2,h2⟩:=ih _ _ _ _ _ hr
   refine⟨max n1 n2,?_⟩
   unfold Vz
   rw[Zyg (Zd9 X M (Nat.le_max_left n1 n2)) h1,Zj,hq,Zj]
   exact ZlI (Zd9 X M (Nat.le_max_right n1 n2)) _ _ _ _ _ _ _ h2
theorem Yb {c:Ze} {st:St} {n:Nat} {r:Ex×St} (h:ZM (Qq X M n) M n c st=some r):Q4 X M c st=some r:=
 ZkP (ZkQ X M c st) h
theorem Wq {α:Type} {x:Nat→Option α} (h:∀ n,x n=none):lim x=none:=by
 cases hx:lim x with
 | none=>rfl
 | some r=>obtain⟨n,hn⟩:=ZhJ hx;rw[h n] at hn;cases hn
theorem Zxi (st:St):Q4 X M .skip st=some (.normal,st):=Yb X M (n:=0) (by simp[ZM])
theorem Zxj (id:Nat) (st:St):Q4 X M (.exit id) st=some (.exit id,st):=Yb X M (n:=0) (by simp[ZM])
theorem Zy9 (st:St):Q4 X M .ret st=some (.ret,st):=Yb X M (n:=0) (by simp[ZM])
theorem Zt8 (n:Nat) (ops:List CO) (st:St) :
  Q4 X M (.region n none ops) st=ZlG st.m (st.nx+64*n) (Zfx (Zg X M) M st.nx 0 ops st.sl st.hp):=by
 cases h:Zfx (Zg X M) M st.nx 0 ops st.sl st.hp with
 | some r=>
  obtain⟨k,hk⟩:=Zxg X M _ _ _ _ _ _ h
  exact Yb X M (n:=k) (by simp only[ZM,hk,ZlG,Zj])
 | none=>
  refine Wq fun k=>?_
  simp only[ZM]
  cases hn:Zfx (Qq X M k) M st.nx 0 ops st.sl st.hp with
  | none=>rfl
  | some r=>rw[Zt7 (Zgo X M k) _ _ _ _ _ _ hn] at h;cases h
theorem Zxk (n:Nat) (ps:List (Nat×Nat)) (ops:List CO) (st:St) :
  Q4 X M (.region n (some ps) ops) st=ZlG st.m (st.nx+64*n) (Zp0 ops ps (JX (Zg X M) M st.nx 0 false ops st.sl st.hp)):=by
 cases h:JX (Zg X M) M st.nx 0 false ops st.sl st.hp with
 | some r=>
  obtain⟨k,hk⟩:=ZvF X M _ _ _ _ _ _ _ h
  cases hs:Zp0 ops ps (some r) with
  | none=>
   refine Wq fun k'=>?_
   simp only[ZM]
   cases hn:JX (Qq X M k') M st.nx 0 false ops st.sl st.hp with
   | none=>rfl
   | some r' =>
    have:=ZlI (Zgo X M k') _ _ _ _ _ _ _ hn
    rw[h] at this
    cases this
    rw[hs];rfl
  | some r'=>exact Yb X M (n:=k) (by simp only[ZM,hk,hs];rfl)
 | none=>
  refine Wq fun k=>?_
  simp only[ZM]
  cases hn:JX (Qq X M k) M st.nx 0 false ops st.sl st.hp with
  | none=>rfl
  | some r=>rw[ZlI (Zgo X M k) _ _ _ _ _ _ _ hn] at h;cases h
theorem Za5 {c:Ze} {st:St} {r:Ex×St} (h:Q4 X M c st=some r):∃ n,∀ m,n≤m→ZM (Qq X M m) M m c st=some r:=by
 obtain⟨n,hn⟩:=ZhJ h
 exact⟨n,fun m hm=>(ZkQ X M c st).le hn hm⟩
theorem Zza (a b:Ze) (st:St):Q4 X M (.seq a b) st=andThen (Q4 X M a st) (Q4 X M b):=by
 cases ha:Q4 X M a st with
 | none=>
  refine Wq fun n=>?_
  cases h:ZM (Qq X M n) M n a st with
  | none=>simp[ZM,h,andThen]
  | some q=>rw[Yb X M h] at ha;cases ha
 | some q=>
  obtain⟨e,st'⟩:=q
  obtain⟨n,hn⟩:=Za5 X M ha
  cases e with
  | normal=>
   simp only[andThen]
   cases hb:Q4 X M b st' with
   | none=>
    refine Wq fun k=>?_
    cases h:ZM (Qq X M k) M k (.seq a b) st with
    | none=>rfl
    | some q=>
     have h1:=(ZkQ X M (.seq a b) st).le h (Nat.le_max_left k n)
     simp only[ZM,hn _ (Nat.le_max_right k n),andThen] at h1
     rw[Yb X M h1] at hb
     cases hb
   | some q=>
    obtain⟨m,hm⟩:=Za5 X M hb
    refine Yb X M (n:=max n m) ?_
    simp only[ZM,hn _ (Nat.le_max_left n m),andThen,hm _ (Nat.le_max_right n m)]
  | exit id=>exact Yb X M (n:=n) (by simp only[ZM,hn _ (Nat.le_refl n),andThen])
  | ret=>exact Yb X M (n:=n) (by simp only[ZM,hn _ (Nat.le_refl n),andThen])
theorem Zxl (c:Opd) (a b:Ze) (st:St) :
  Q4 X M (.cond c a b) st=ZhI (evO st.sl c) (Q4 X M a st) (Q4 X M b st):=by
 unfold ZhI
 split
 ·rename_i t h
  cases t
  ·simp only[Bool.false_eq_true,if_false,Q4,ZM,h,ZhI]
  ·simp only[if_true,Q4,ZM,h,ZhI]
 ·rename_i h
  refine Wq fun n=>?_
  simp only[ZM,ZhI]
theorem ZvG (id:Nat) (c:Ze) (st:St):Q4 X M (.block id c) st=ZgF id (Q4 X M c st):=by
 cases hc:Q4 X M c st with
 | none=>
  refine Wq fun n=>?_
  cases h:ZM (Qq X M n) M n c st with
  | none=>simp[ZM,h,ZgF]
  | some q=>rw[Yb X M h] at hc;cases hc
 | some q=>
  obtain⟨n,hn⟩:=Za5 X M hc
  cases hb:ZgF id (some q) with
  | none=>
   obtain⟨e,st'⟩:=q
   cases e<;>simp[ZgF] at hb
   split at hb<;>cases hb
  | some r=>exact Yb X M (n:=n) (by simp only[ZM,hn _ (Nat.le_refl n),hb])
theorem Zxm (K:List Nat) (c:Ze) (st:St):Q4 X M (.keep K c) st=ZnS K (Q4 X M c st):=by
 cases hc:Q4 X M c st with
 | none=>
  refine Wq fun n=>?_
  cases h:ZM (Qq X M n) M n c st with
  | none=>simp[ZM,h,ZnS]
  | some q=>rw[Yb X M h] at hc;cases hc
 | some q=>
  obtain⟨n,hn⟩:=Za5 X M hc
  exact Yb X M (n:=n) (by simp only[ZM,hn _ (Nat.le_refl n),ZnS])
theorem Zxn (id:Nat) (i:Opd) (j:Nat) (c:Ze) (st:St):Q4 X M (.link id i j c) st=bnd (Ze0 id i j st) (Q4 X M c):=by
 cases hl:Ze0 id i j st with
 | none=>
  refine Wq fun n=>?_
  simp only[ZM,hl];rfl
 | some st' =>
  rw[Zj]
  cases hc:Q4 X M c st' with
  | none=>
   refine Wq fun n=>?_
   cases h:ZM (Qq X M n) M n c st' with
   | none=>simp only[ZM,hl,Zj,h]
   | some q=>rw[Yb X M h] at hc;cases hc
  | some q=>
   obtain⟨n,hn⟩:=Za5 X M hc
   exact Yb X M (n:=n) (by simp only[ZM,hl,Zj,hn _ (Nat.le_refl n)])
theorem Zxo (c:Ze) (st:St):Q4 X M (.melt c) st=Q4 X M c (Zt5 st):=by
 cases hc:Q4 X M c (Zt5 st) with
 | none=>
  refine Wq fun n=>?_
  cases h:ZM (Qq X M n) M n c (Zt5 st) with
  | none=>simp only[ZM,h]
  | some q=>rw[Yb X M h] at hc;cases hc
 | some q=>
  obtain⟨n,hn⟩:=Za5 X M hc
  exact Yb X M (n:=n) (by simp only[ZM,hn _ (Nat.le_refl n)])
noncomputable def ZhK (c:Ze) (K:List Nat) (st:St):Option (Ex×St):=lim fun n=>JY (ZM (Qq X M n) M n c) K n st
theorem ZeD (c:Ze) (K:List Nat) (st:St):Zy8 fun n=>JY (ZM (Qq X M n) M n c) K n st:=fun n r hr=>
 ZlJ (fun _ _ h=>ZoY (ZmY X M n) (Nat.le_succ n) c _ _ h) K n (n+1) st r (Nat.le_succ n) hr
theorem Zxp (c:Ze) (st:St):Q4 X M (.loop c) st=ZhK X M c (ZkN st.sl) st:=by
 simp only[Q4,ZhK,ZM]
theorem ZvH {c:Ze} {K:List Nat} {st st' : St} (h:Q4 X M c (JL K st)=some (.normal,st')) :
  ZhK X M c K st=ZhK X M c K st':=by
 obtain⟨n,hn⟩:=Za5 X M h
 cases hl:ZhK X M c K st' with
 | none=>
  refine Wq fun k=>?_
  cases hk:JY (ZM (Qq X M k) M k c) K k st with
  | none=>rfl
  | some q=>
   have h1:=(ZeD X M c K st).le hk (show k≤max k n+1 by omega)
   simp only[JY] at h1
   rw[hn (max k n+1) (by omega)] at h1
   simp only[] at h1
   have h2:=ZlJ (fun _ _ h=>h) K (max k n) (max k n+1) st' q (Nat.le_succ _) h1
   rw[show ZhK X M c K st'=some q from ZkP (ZeD X M c K st') h2] at hl
   cases hl
 | some q=>
  obtain⟨m,hm⟩:=ZhJ hl
  refine ZkP (ZeD X M c K st) (n:=max n m+1) ?_
  simp only[JY,hn (max n m+1) (by omega)]
  exact ZlJ (fun _ _ h=>ZoY (Zd9 X M (show m≤max n m+1 by omega)) (show m≤max n m+1 by omega) c _ _ h) K m (max n m) st' q (by omega) hm
theorem Zp1 {c:Ze} {K:List Nat} {st st' : St} {e:Ex} (he:e≠.normal) (h:Q4 X M c (JL K st)=some (e,st')) :
  ZhK X M c K st=some (e,st'):=by
 obtain⟨n,hn⟩:=Za5 X M h
 refine ZkP (ZeD X M c K st) (n:=n+1) ?_
 simp only[JY,hn (n+1) (by omega)]
 cases e with
 | normal=>exact absurd rfl he
 | exit id=>rfl
 | ret=>rfl
theorem ZAj {f:Nat} {as:List AV} {h:List Zt} {fn:Zz} {r:AV×List Zt} (hx:X f=some (.text fn))
  (hl:as.length≤fn.nt) (hr:Zc0 h.length fn.res (Q4 X M fn.body { sl:=UI 0 as,hp:=Uu 0 h,nx:=h.length,m:=h.length })=some r) :
  Zg X M f as h=some r:=by
 cases hv:Q4 X M fn.body { sl:=UI 0 as,hp:=Uu 0 h,nx:=h.length,m:=h.length } with
 | none=>rw[hv] at hr;simp[Zc0] at hr
 | some q=>
  rw[hv] at hr
  obtain⟨n,hn⟩:=Za5 X M hv
  refine ZkP (ZeC X M f as h) (n:=n+1) ?_
  simp only[Qq,hx,Zgn,ZlH,hl,if_true,hn n (Nat.le_refl n)]
  exact hr
theorem Zp2 {f:Nat} {as:List AV} {h:List Zt} {p:List AV→List Zt→Option (AV×List Zt)} {r:AV×List Zt} (hx:X f=some (.prim p)) (hp:p as h=some r) :
  Zg X M f as h=some r:=
 ZkP (ZeC X M f as h) (n:=1) (by simp only[Qq,hx,Zgn,hp])
end
section
variable (P:Program)
def JM (nt:Nat):Code→Option Ze
 | .skip=>some .skip
 | .region _ ops draw=>bnd (QV (ZnQ P nt ops.toList) ops.toList) fun os=>if draw then (if ZpY ops os then some (.region ops.toList.length (some (Zd5 ops os)) os) else some .stuck) else some (.region ops.toList.length none os)
 | .seq a b=>bnd (JM nt a) fun a=>bnd (JM nt b) fun b=>some (.seq a b)
 | .cond c a b=>bnd (Qb c) fun c=>bnd (JM nt a) fun a=>bnd (JM nt b) fun b=>some (.cond c a b)
 | .block id c=>bnd (JM nt c) fun c=>some (.block id c)
 | .loop c=>bnd (JM nt c) fun c=>some (.loop c)
 | .exit id=>some (.exit id)
 | .ret=>some .ret
 | _=>some .stuck
def Zja:COp→COp
 | .buildDp s _ xs=>.buildSl s xs
 | .asgDp s _ x=>.assign (some s) x
 | .appDp s b flat x y=>.append s b false flat x y
 | c=>c
def Zm0:List CO→List CO
 | []=>[]
 | o :: r => { o with op:=Zja o.op } :: Zm0 r
def Zxq:Option (List (Nat×Nat))→List CO→List CO
 | none,ops=>Zm0 ops
 | some _,ops=>ops
def VA:Ze→Ze
 | .keep _ c=>VA c
 | .seq a b=>.seq (VA a) (VA b)
 | .cond c a b=>.cond c (VA a) (VA b)
 | .block id c=>.block id (VA c)
 | .loop c=>.loop (VA c)
 | .region n d ops=>.region n d (Zxq d ops)
 | .link _ _ _ c=>VA c
 | .melt c=>VA c
 | .skip=>.skip
 | .exit id=>.exit id
 | .ret=>.ret
 | .stuck=>.stuck
def Zm1 (cf:Zz):Zz := { nt:=cf.nt,res:=cf.res,body:=VA cf.body }
def cRes:ResultVar→Option ZrD
 | .tmp t=>some (.tmp t)
 | .cell a t=>bnd (Zfr P t) fun g=>some (.cell a g (P.cellsOf t))
def cFun (fn:Func):Option Zz:=bnd fn.body fun c=>bnd (JM P fn.ntmps c) fun b=>bnd (QV (cRes P) fn.results.toList) fun rs=>some { nt:=fn.ntmps,res:=rs,body:=b }
end
end Go.Abs
