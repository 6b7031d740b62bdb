/- Own text. -/
import Derived.Test.YtcefneehgbiebaaGreatDoorAbsOps
set_option linter.unusedVariables false
set_option linter.unusedSimpArgs false
namespace Go.Abs
open Go
inductive Ex where
 | normal
 | exit (id:Nat)
 | ret
def Q0 (lo hi:Nat):Hp→Bool
 | []=>true
 | (k,_) :: r=>decide (lo≤k)&&decide (k<hi)&&Q0 (k+1) hi r
def Xi (gone:List Nat) (sl:Sl):Sl:=match gone with
 | []=>sl
 | _=>Zj8 (kill gone) sl
def Vl (gone:List Nat) (hp:Hp):Hp:=match gone with
 | []=>hp
 | _=>Zj8 (X4 gone) hp
def Zt (sl:Sl) (dst:Option Nat) (v:AV):Sl:=match dst with
 | some t=>ins sl t v
 | none=>sl
def Zd.on (e:Zd) (dst:Option Nat) (sl:Sl) (hp:Hp):Sl×Hp:=
 (Zt (Xi e.gone sl) dst e.eff.val,e.eff.on (Vl e.gone hp))
def Y3 (base:Nat) (dst:Option Nat) (sl:Sl) (hp:Hp) (e:Option Zd):Option (Sl×Hp):=
 bnd e fun e=>if Q0 base (base+64) e.eff.adds then some (e.on dst sl hp) else none
def Zg2 (want:Bool):AV→Option Bool
 | .d (.bool b)=>some (b==want)
 | .tup []=>some false
 | _=>none
def Z7 (sl:Sl):Option (Nat×Bool)→Option Bool
 | none=>some true
 | some q=>Zg2 q.2 (gs sl q.1)
inductive ZZ where
 | skip
 | region (n:Nat) (draw:Option (List (Nat×Nat))) (ops:List CO)
 | seq (a b:ZZ)
 | cond (c:Opd) (a b:ZZ)
 | block (id:Nat) (c:ZZ)
 | loop (c:ZZ)
 | exit (id:Nat)
 | ret
 | keep (K:List Nat) (c:ZZ)
 | stuck
 | link (id:Nat) (i:Opd) (j:Nat) (c:ZZ)
 | melt (c:ZZ)
inductive ZsW where
 | tmp (t:Nat)
 | cell (a:Nat) (g:Bool) (s:Nat)
structure Zr where
 nt:Nat
 res:List ZsW
 body:ZZ
def ZlM (x:Option Opd):List Opd:=match x with
 | some y=>[y]
 | none=>[]
def ZM:COp→List Opd
 | .move x=>[x]
 | .assign _ x=>[x]
 | .pick c a b=>[c,a,b]
 | .alloc _ _=>[]
 | .box x=>[x]
 | .build _ ps=>ps.map fun q=>q.2.2
 | .buildSl _ xs=>xs
 | .load _ _ a=>[a]
 | .store _ _ a x=>[a,x]
 | .nilCheck x=>[x]
 | .bin _ _ x y=>[x,y]
 | .un _ x=>[x]
 | .eqA _ _ x y=>[x,y]
 | .convI _ x=>[x]
 | .convS x=>[x]
 | .fn _ cs=>cs
 | .make _ _ _ l c=>[l,c]
 | .slice _ x lo hi=>x :: (ZlM lo++ZlM hi)
 | .sliceS x lo hi=>x :: (ZlM lo++ZlM hi)
 | .slice0 x hi mx=>[x,hi,mx]
 | .shift _ x=>[x]
 | .part _ _ _ x=>[x]
 | .iaS _ x i=>[x,i]
 | .iaA _ _ x i=>[x,i]
 | .ixS x i=>[x,i]
 | .ixA _ _ _ x i=>[x,i]
 | .nth _ x=>[x]
 | .len x=>[x]
 | .lenS x=>[x]
 | .append _ _ _ _ x y=>[x,y]
 | .min x y=>[x,y]
 | .max x y=>[x,y]
 | .call f as=>f :: as
 | .slice3 _ x lo hi mx=>[x,lo,hi,mx]
 | .clear _ _ x=>[x]
 | .stuck=>[]
 | .buildDp _ _ xs=>xs
 | .appDp _ _ _ x y=>[x,y]
 | .asgDp _ _ x=>[x]
def ZjX:COp→Bool
 | .store _ _ _ _=>true
 | _=>false
def isApp:COp→Bool
 | .append _ _ _ _ _ _=>true
 | _=>false
def ZrQ (c:COp):Bool:=ZjX c || isApp c
def CO.starts (o:CO):Bool:=ZjX o.op || o.tl
def Z1 (os:List CO) (i:Nat):Bool:=match os[i]? with
 | some o=>CO.starts o
 | none=>false
def Zcj:Opd→List Nat
 | .t n=>[n]
 | _=>[]
def ZrR:Option (Nat×Bool)→List Nat
 | some q=>[q.1]
 | none=>[]
def looks (o:CO):List Nat:=(ZM o.op).flatMap Zcj++ZrR o.guard
def QV:Option Nat→List Nat→Bool
 | some d,l=>!l.contains d
 | none,_=>true
def Zbp:Option Nat→Option Nat→Bool
 | some d,some e=>d != e
 | _,_=>true
def XM (a b:CO):Bool:=QV a.dst (looks b)&&Zbp a.dst b.dst&&QV b.dst (looks a)
def Vm:Opd→Bool
 | .v a=>(ZC a).isEmpty&&!Ztm a
 | _=>true
def Zu3 (os:List CO) (j i:Nat):Bool:=match os[j]?,os[i]? with
 | some a,some b=>XM a b
 | _,_=>false
def Um:COp→Bool
 | .load _ _ _=>false
 | .store _ _ _ _=>false
 | .slice _ _ _ _=>false
 | .slice0 _ _ _=>false
 | .iaS _ _ _=>false
 | .len _=>false
 | .append _ _ _ _ _ _=>false
 | .buildSl _ _=>false
 | .buildDp _ _ _=>false
 | .appDp _ _ _ _ _=>false
 | .asgDp _ _ _=>false
 | .call _ _=>false
 | .slice3 _ _ _ _ _=>false
 | .clear _ _ _=>false
 | _=>true
def ZaW:COp→Bool
 | .load _ _ _=>true
 | .slice _ _ _ _=>true
 | .slice0 _ _ _=>true
 | .iaS _ _ _=>true
 | .len _=>true
 | _=>false
def Zx7:COp→Bool
 | .clear _ _ _=>false
 | .store _ _ _ _=>false
 | .append _ _ _ _ _ _=>false
 | .buildSl _ _=>false
 | .buildDp _ _ _=>false
 | .appDp _ _ _ _ _=>false
 | .asgDp _ _ _=>false
 | .call _ _=>false
 | _=>true
def J0 (os:List CO) (k:Nat):Option Nat:=match os[k]? with
 | some o=>o.dst
 | none=>none
def Zu4 (os:List CO) (k:Nat):List Nat:=match os[k]? with
 | some o=>looks o
 | none=>[]
def Zck (os:List CO) (k:Nat):Bool:=(List.range os.length).all fun q=>decide (q<k) || QV (J0 os q) (Zu4 os k)
def VJ:COp→Bool
 | .move _=>true
 | _=>false
def Zg3:COp→Bool
 | .append _ _ _ _ _ _=>true
 | .buildSl _ _=>true
 | _=>false
def ZbJ:COp→Bool
 | .call (.f _) _=>true
 | _=>false
def Zoj:COp→List Opd
 | .call _ as=>as
 | _=>[]
def Zx8:COp→Bool
 | .alloc _ _=>false
 | .box _=>false
 | .assign _ _=>false
 | .make _ _ _ _ _=>false
 | .fn _ _=>false
 | _=>true
def ZtW:COp→Bool
 | .buildSl _ _=>true
 | _=>false
def Ze1:AV→Bool
 | .d _=>true
 | .nil=>true
 | .nilp=>true
 | .nili=>true
 | _=>false
def Wn:List AV→Bool
 | []=>true
 | c :: r=>Ze1 c&&Wn r
def Zp1:COp→Bool
 | .alloc _ cs=>Wn cs
 | _=>false
def ZrS (c:COp):Bool:=ZaW c || ZtW c || (Um c&&Zx8 c) || Zp1 c
def Zm9:COp→Bool
 | .alloc _ cs=>Wn cs
 | .buildSl _ _=>true
 | .load _ _ _=>true
 | .nilCheck _=>true
 | .bin _ _ _ _=>true
 | .un _ _=>true
 | .convI _ _=>true
 | .shift _ _=>true
 | .iaS _ _ _=>true
 | .slice _ _ _ _=>true
 | .len _=>true
 | .sliceS _ _ _=>true
 | .lenS _=>true
 | _=>false
def ZCD:Option Nat→Bool
 | some _=>true
 | none=>false
def ZpP (os:List CO) (k:Nat):Bool:=ZCD (J0 os k)&&(List.range os.length).all fun q=>q==k || Zbp (J0 os q) (J0 os k)
def Zna (os:List CO) (j i:Nat):Bool:=Zck os j&&Zck os i
def ZBy (os:List CO) (j i:Nat) (a b:COp):Bool:=
 Zx7 b || (ZrQ b&&(Um a || (!VJ a&&ZaW a&&Zna os j i))) || (VJ a&&(Zg3 b || ZpP os j)) || (!VJ a&&ZbJ b&&ZrS a&&Zna os j i&&ZpP os j)
def ZBz (os:List CO) (j i:Nat) (a b:COp):Bool:=(VJ b&&ZpP os i) || (!VJ b&&ZbJ a&&Zm9 b&&Zna os j i&&ZpP os i)
def Zu5 (os:List CO) (j i:Nat):Bool:=match os[j]?,os[i]? with
 | some a,some b=>if Z1 os j then !Z1 os i&&ZBz os j i a.op b.op else !Z1 os i || ZBy os j i a.op b.op
 | _,_=>false
def Zg4 (os:List CO) (j i:Nat):Option (Nat×Nat):=match os[j]?,os[i]? with
 | some a,some b=>if Z1 os j then (if VJ b.op || ZbJ a.op then some (i,j) else none) else
   if Z1 os i&&(if ZrQ b.op then !(Um a.op) else if VJ a.op then !(Zg3 b.op) else ZbJ b.op) then some (j,i) else none
 | _,_=>none
def optP:Option (Nat×Nat)→List (Nat×Nat)
 | some p=>[p]
 | none=>[]
def ZdV (ops:Array Oper) (os:List CO):List (Nat×Nat):=
 (List.range ops.size).flatMap fun i=>(List.range i).flatMap fun j=>if ZlJ ops 6 i j then [] else optP (Zg4 os j i)
def ZrT (ops:Array Oper) (os:List CO):Bool:=
 (List.range ops.size).all (fun i=>(WS ops i).all fun e=>decide (e<i)) &&
 (List.range ops.size).all (fun i=>(List.range i).all fun j=>(WS ops i).contains j || Zu3 os j i) &&
 (List.range ops.size).all (fun i=>(List.range i).all fun j=>ZlJ ops 6 i j || Zu5 os j i) &&
 os.all (fun o=>(ZM o.op).all Vm)
def ZdW (id:Nat):AV→Bool
 | .d _=>true
 | .pim _=>true
 | .nil=>true
 | .ptr k _=>k != id
 | .prow k _ _ _=>k != id
 | .own k=>k != id
 | .ownv k _ _=>k != id
 | .nilp=>true
 | .nili=>true
 | .tup []=>true
 | _=>false
def okC:AV→Bool
 | .d _=>true
 | .pim _=>true
 | .nil=>true
 | .ptr _ _=>true
 | .prow _ _ _ _=>true
 | .own _=>true
 | .ownv _ _ _=>true
 | .nilp=>true
 | .nili=>true
 | _=>false
def Zu6:List AV→Bool
 | []=>true
 | v :: r=>okC v&&Zu6 r
def okV:AV→Bool
 | .agg cs=>Zu6 cs
 | .tup []=>true
 | v=>okC v
def okL (sl:Sl):List Opd→Bool
 | []=>true
 | x :: r=>okV (evO sl x)&&okL sl r
def okD (sl:Sl):Option Nat→Bool
 | some t=>okV (gs sl t)
 | none=>true
def Wo:AV→Option Nat
 | .ptr k _=>some k
 | .prow k _ _ _=>some k
 | _=>none
def Xr (sl:Sl) (id:Nat):List Opd→Bool
 | []=>true
 | x :: r=>ZdW id (evO sl x)&&Xr sl id r
def Zg5 (sl:Sl) (a:COp):Option Nat→Bool
 | some id=>Xr sl id (ZM a)
 | none=>false
def ZdX (sl:Sl) (xs:List Opd):AV→Bool
 | .ptr k _=>Xr sl k xs
 | .prow _ _ _ _=>false
 | _=>true
def Zjn (sl:Sl) (xs:List Opd):List Opd→Bool
 | []=>true
 | y :: r=>ZdX sl xs (evO sl y)&&Zjn sl xs r
def JD (sl:Sl) (a:COp):AV→Bool
 | .nil=>true
 | .tup []=>true
 | .own k=>Xr sl k (ZM a)
 | .ownv k _ _=>Xr sl k (ZM a)
 | .sub k _=>Xr sl k (ZM a)
 | _=>false
def seenSrc (sl:Sl) (a:COp):AV→Bool
 | .own k=>Xr sl k (ZM a)
 | v=>okV v
def JP (sl:Sl) (d:Option Nat):COp→COp→Bool
 | .move _,_=>okD sl d
 | a,.store _ _ x _=>Zg5 sl a (Wo (evO sl x))
 | a,.append _ _ _ flat x y=>JD sl a (evO sl x)&&(flat || seenSrc sl a (evO sl y))
 | a,.call _ as=>okL sl (ZM a)&&(okD sl d&&(okL sl as&&Zjn sl (ZM a) as))
 | _,_=>false
def Znb (os:List CO) (sl:Sl) (p:Nat×Nat):Bool:=match os[p.1]?,os[p.2]? with
 | some a,some b=>JP sl a.dst a.op b.op
 | _,_=>false
def JE (os:List CO) (sl:Sl):List (Nat×Nat)→Bool
 | []=>true
 | p :: r=>Znb os sl p&&JE os sl r
section
variable (C:Orc) (M:Zp)
noncomputable def ZfX (nx:Nat):Nat→List CO→Sl→Hp→Option (Sl×Hp)
 | _,[],sl,hp=>some (sl,hp)
 | i,o :: rest,sl,hp=>bnd (Z7 sl o.guard) fun b=>
   if b then bnd (Y3 (nx+64*i) o.dst sl hp (vop C M sl hp (nx+64*i) o.op)) fun r=>ZfX nx (i+1) rest r.1 r.2
   else ZfX nx (i+1) rest (Zt sl o.dst (.tup [])) hp
def Zg6 (c:Zd):List Nat→Hp→List Nat→List Nat→Option Zd
 | [],[],[],[]=>some c
 | _,_,_,_=>none
def ZdY (e:Option Zd):Option Zd:=bnd e fun c=>Zg6 c c.gone c.eff.sets c.eff.dels c.eff.frz
noncomputable def WY (nx i:Nat) (tail:Bool) (o:COp) (sl:Sl) (hp:Hp):Option Zd:=
 if tail then vop C M sl hp (nx+64*i) o else ZdY (vop C M sl hp (nx+64*i) o)
noncomputable def Jr (nx:Nat):Nat→Bool→List CO→Sl→Hp→Option (Sl×Hp)
 | _,_,[],sl,hp=>some (sl,hp)
 | i,t,o :: rest,sl,hp=>bnd (Z7 sl o.guard) fun b=>
   if b then bnd (Y3 (nx+64*i) o.dst sl hp (WY C M nx i (CO.starts o) o.op sl hp)) fun r=>Jr nx (i+1) t rest r.1 r.2
   else Jr nx (i+1) t rest (Zt sl o.dst (.tup [])) hp
def ZlN {α:Type}:List (Nat×α)→List Nat
 | []=>[]
 | (k,_) :: r=>k :: ZlN r
def only {α:Type} (K:List Nat):List (Nat×α)→List (Nat×α)
 | []=>[]
 | (k,v) :: r=>if K.contains k then (k,v) :: only K r else only K r
def VN:Nat→List Zm→Hp
 | _,[]=>[]
 | k,o :: r=>VN (k+1) r++[(k,o)]
def ZrU:Sl→List Nat
 | []=>[]
 | (_,v) :: r=>ZC v++ZrU r
def ZaX:Option Zm→Bool
 | some _=>true
 | none=>false
def Ze2 (hp:Hp) (ids:List Nat) (i:Nat):Bool:=ids.contains i&&ZaX (lkp hp i)
def Zjo (hp:Hp) (ids:List Nat):List Nat→List Nat
 | []=>[]
 | i :: r=>if Ze2 hp ids i then Zjo hp ids r else i :: Zjo hp ids r
def ZfY (hp:Hp) (ids:List Nat) (v:AV):AV:=ren (WR ids) (kill (Zjo hp ids (ZC v)) v)
def Zjp (hp:Hp) (ids:List Nat) (o:Zm):Zm:=ZpN (WR ids) (X4 (Zjo hp ids (ZbY o)) o)
def Zx9:Option Zm→List Nat
 | some o=>ZbY o
 | none=>[]
def WV (hp:Hp):List Nat→List Nat
 | []=>[]
 | id :: r=>Zx9 (lkp hp id)++WV hp r
def WW (K:List Nat) (st:St):St:=
 let sl:=only K st.sl
 let ids:=QQ st.hp (Xh st.hp) (ZrU sl++WV st.hp (List.range st.m)) (List.range st.m)
 { sl:=Zj8 (ZfY st.hp ids) sl,hp:=VN 0 ((ZdL st.hp ids).map (Zjp st.hp ids)),nx:=ids.length,m:=st.m }
def Js (f:St→Option (Ex×St)) (K:List Nat):Nat→St→Option (Ex×St)
 | 0,_=>none
 | n+1,st=>match f (WW K st) with
  | some (.normal,st')=>Js f K n st'
  | r=>r
def andThen (r:Option (Ex×St)) (k:St→Option (Ex×St)):Option (Ex×St):=match r with
 | some (.normal,st)=>k st
 | r=>r
def Zjq (v:AV) (a b:Option (Ex×St)):Option (Ex×St):=match v with
 | .d (.bool t)=>if t then a else b
 | _=>none
def ZhV (id:Nat) (r:Option (Ex×St)):Option (Ex×St):=match r with
 | some (.exit j,st)=>if j=id then some (.normal,st) else some (.exit j,st)
 | r=>r
def ZrV (ops:List CO) (ps:List (Nat×Nat)) (r:Option (Sl×Hp)):Option (Sl×Hp):=bnd r fun r=>if JE ops r.1 ps then some r else none
def Znc (m nx:Nat) (r:Option (Sl×Hp)):Option (Ex×St):=bnd r fun r=>some (.normal,{ sl:=r.1,hp:=r.2,nx:=nx,m:=m })
def Zpc (K:List Nat) (r:Option (Ex×St)):Option (Ex×St):=match r with
 | some q=>some (q.1,{ q.2 with sl:=only K q.2.sl })
 | none=>none
def Zy4 (nx n j:Nat):Option Zm→Option Zm
 | some (.deep s k xs _)=>bnd (Zm2 xs n j) fun _=>some (.deep s k xs (some (nx,n,j)))
 | _=>none
def Ze3 (id:Nat) (i:Opd) (j:Nat) (st:St):Option St:=bnd (idx (evO st.sl i)) fun n=>if 0≤n then bnd (Zy4 st.nx n.toNat j (lkp st.hp id)) fun o=>some { st with hp:=ins st.hp id o,nx:=st.nx+64 } else none
def Zu7 (st:St):St := { st with hp:=Zj8 ZdP st.hp }
noncomputable def ZF (N:Nat):ZZ→St→Option (Ex×St)
 | .skip,st=>some (.normal,st)
 | .region n none ops,st=>Znc st.m (st.nx+64*n) (ZfX C M st.nx 0 ops st.sl st.hp)
 | .region n (some ps) ops,st=>Znc st.m (st.nx+64*n) (ZrV ops ps (Jr C M st.nx 0 false ops st.sl st.hp))
 | .seq a b,st=>andThen (ZF N a st) (ZF N b)
 | .cond c a b,st=>Zjq (evO st.sl c) (ZF N a st) (ZF N b st)
 | .block id c,st=>ZhV id (ZF N c st)
 | .loop c,st=>Js (ZF N c) (ZlN st.sl) N st
 | .exit id,st=>some (.exit id,st)
 | .ret,st=>some (.ret,st)
 | .keep K c,st=>Zpc K (ZF N c st)
 | .stuck,_=>none
 | .link id i j c,st=>bnd (Ze3 id i j st) (ZF N c)
 | .melt c,st=>ZF N c (Zu7 st)
def ZpQ (st:St):ZsW→Option AV
 | .tmp t=>some (gs st.sl t)
 | .cell a g s=>Jp st.hp g s (gs st.sl a)
def VK (m:Nat) (hp:Hp) (v:AV):AV×List Zm:=
 let ids:=QQ hp (Xh hp) (ZC v++WV hp (List.range m)) (List.range m)
 (ZfY hp ids v,(ZdL hp ids).map (Zjp hp ids))
def Zy5:AV→Bool
 | .tup _=>true
 | _=>false
def ZlO:List AV→Bool
 | []=>false
 | v :: r=>Zy5 v || ZlO r
def ZcB:List AV→AV
 | [v]=>v
 | vs=>if ZlO vs then .junk else .tup vs
def Wp:Nat→List AV→Sl
 | _,[]=>[]
 | k,v :: r=>Wp (k+1) r++[(k,v)]
def Zcl (m:Nat) (rs:List ZsW) (r:Option (Ex×St)):Option (AV×List Zm):=match r with
 | some (.normal,st)=>bnd (QM (ZpQ st) rs) fun vs=>some (VK m st.hp (ZcB vs))
 | some (.ret,st)=>bnd (QM (ZpQ st) rs) fun vs=>some (VK m st.hp (ZcB vs))
 | _=>none
noncomputable def Znd (N:Nat) (fn:Zr) (as:List AV) (h:List Zm):Option (AV×List Zm):=
 if as.length≤fn.nt then Zcl h.length fn.res (ZF C M N fn.body { sl:=Wp 0 as,hp:=VN 0 h,nx:=h.length,m:=h.length }) else none
end
inductive Fn where
 | text (f:Zr)
 | prim (p:List AV→List Zm→Option (AV×List Zm))
abbrev Fns:=Nat→Option Fn
noncomputable def Zg7 (C:Orc) (M:Zp) (N:Nat) (as:List AV) (h:List Zm):Option Fn→Option (AV×List Zm)
 | some (.text f)=>Znd C M N f as h
 | some (.prim p)=>p as h
 | none=>none
noncomputable def Qp (X:Fns) (M:Zp):Nat→Orc
 | 0,_,_,_=>none
 | n+1,f,as,h=>Zg7 (Qp X M n) M n as h (X f)
open Classical in
noncomputable def lim {α:Type} (x:Nat→Option α):Option α:=if h:∃ r,∃ n,x n=some r then some h.choose else none
def ZAi {α:Type} (x:Nat→Option α):Prop:=∀ n r,x n=some r→x (n+1)=some r
theorem ZAi.le {α:Type} {x:Nat→Option α} (h:ZAi x) {n m:Nat} {r:α} (hr:x n=some r) (aa:n≤m):x m=some r:=by
 induction aa with
 | refl=>exact hr
 | step _ ih=>exact h _ _ ih
theorem ZlP {α:Type} {x:Nat→Option α} (h:ZAi x) {n:Nat} {r:α} (hr:x n=some r):lim x=some r:=by
 have he:∃ r,∃ n,x n=some r:=⟨r,n,hr⟩
 unfold lim;rw[dif_pos he];obtain⟨m,hm⟩:=he.choose_spec;have h1:=h.le hm (L8 m n);have h2:=h.le hr (L4 m n);rw[h1] at h2;exact h2
theorem Zjr {α:Type} {x:Nat→Option α} {r:α} (hr:lim x=some r):∃ n,x n=some r:=by
 unfold lim at hr;split at hr
 ·rename_i h;obtain⟨n,hn⟩:=h.choose_spec;exact⟨n,by rw[hn];exact hr⟩
 ·cases hr
def Orc.le (C C' : Orc):Prop:=∀ f as h r,C f as h=some r→C' f as h=some r
section
variable {M:Zp} {C C' : Orc}
theorem Zcm {α β:Type} {x x' : Option α} {f f' : α→Option β} {r:β} (hx:∀ a,x=some a→x'=some a) (hf:∀ a,f a=some r→f' a=some r) (h:bnd x f=some r):bnd x' f'=some r:=by
 obtain⟨a,h1,h2⟩:=Za h;rw[hx a h1];exact hf a h2
theorem ZBA (h:C.le C') {m:Nat→Bool} {hp:Hp} {base f:Nat} {aa:List AV} {r:Zd}
  (hr:Zcy C m hp base f aa=some r):Zcy C' m hp base f aa=some r:=by
 unfold Zcy at hr ⊢;refine Zcm (fun _ h=>h) (fun as hr=>?_) hr;unfold Zek at hr ⊢;by_cases hc:(as.flatMap ZC).all (QQ hp (Xh hp) (as.flatMap ZC) []).contains∧¬(Vf aa as).any (QQ hp (Xh hp) (as.flatMap ZC) []).contains∧ZcP hp (as.flatMap Zb1) (QQ hp (Xh hp) (as.flatMap ZC) [])=true
 ·rw[Kh hc] at hr ⊢;exact Zcm (fun q hq=>h _ _ _ _ hq) (fun _ h=>h) hr
 ·rw[Kd hc] at hr;cases hr
theorem Zu8 (h:C.le C') {sl:Sl} {hp:Hp} {base:Nat} {o:COp} {r:Zd} (hr:vop C M sl hp base o=some r) :
  vop C' M sl hp base o=some r:=by
 cases o with
 | call f as=>
  simp only[vop] at hr ⊢;cases hg:evO sl f<;>simp only[hg,ZdQ] at hr ⊢ <;> first | exact ZBA h hr | exact hr
 | _=>exact hr
theorem Zu9 (h:C.le C') (nx:Nat):∀ (l:List CO) (i:Nat) (sl:Sl) (hp:Hp) (r:Sl×Hp),
  ZfX C M nx i l sl hp=some r→ZfX C' M nx i l sl hp=some r:=by
 intro l
 induction l with
 | nil=>intro i sl hp r hr;exact hr
 | cons o rest ih=>
  intro i sl hp r hr;simp only[ZfX] at hr ⊢;refine Zcm (fun _ h=>h) (fun b hr=>?_) hr;cases b
  ·simp only[Ka,Kq] at hr ⊢;exact ih _ _ _ _ hr
  ·simp only[Km] at hr ⊢;refine Zcm (fun q hq=>?_) (fun q hq=>ih _ _ _ _ hq) hr;unfold Y3 at hq ⊢;exact Zcm (fun e he=>Zu8 h he) (fun _ h=>h) hq
theorem Zy6 (h:C.le C') {nx i:Nat} {t:Bool} {o:COp} {sl:Sl} {hp:Hp} {e:Zd} (he:WY C M nx i t o sl hp=some e) :
  WY C' M nx i t o sl hp=some e:=by
 unfold WY at he ⊢;cases t
 ·simp only[Ka,Kq,ZdY] at he ⊢;exact Zcm (fun _ hv=>Zu8 h hv) (fun _ h=>h) he
 ·simp only[Km] at he ⊢;exact Zu8 h he
theorem Zne (h:C.le C') (nx:Nat):∀ (l:List CO) (i:Nat) (t:Bool) (sl:Sl) (hp:Hp) (r:Sl×Hp),
  Jr C M nx i t l sl hp=some r→Jr C' M nx i t l sl hp=some r:=by
 intro l
 induction l with
 | nil=>intro i t sl hp r hr;exact hr
 | cons o rest ih=>
  intro i t sl hp r hr;simp only[Jr] at hr ⊢;refine Zcm (fun _ h=>h) (fun b hr=>?_) hr;cases b
  ·simp only[Ka,Kq] at hr ⊢;exact ih _ _ _ _ _ hr
  ·simp only[Km] at hr ⊢;refine Zcm (fun q hq=>?_) (fun q hq=>ih _ _ _ _ _ hq) hr;unfold Y3 at hq ⊢;exact Zcm (fun e he=>Zy6 h he) (fun _ h=>h) hq
theorem Znf {f g:St→Option (Ex×St)} (h:∀ st r,f st=some r→g st=some r) (K:List Nat) :
  ∀ (n m:Nat) (st:St) (r:Ex×St),n≤m→Js f K n st=some r→Js g K m st=some r:=by
 intro n
 induction n with
 | zero=>intro m st r _ hr;simp[Js] at hr
 | succ n ih=>
  intro m st r hm hr;cases m with
  | zero=>omega
  | succ m=>
   simp only[Js] at hr ⊢;cases hf:f (WW K st) with
   | none=>simp[hf] at hr
   | some q=>
    rw[hf] at hr;rw[h _ _ hf];obtain⟨e,aa⟩:=q;cases e with
    | normal=>exact ih m aa r (by omega) hr
    | exit id=>exact hr
    | ret=>exact hr
theorem Zp2 (h:C.le C') {N N' : Nat} (hN:N≤N'):∀ (c:ZZ) (st:St) (r:Ex×St),
  ZF C M N c st=some r→ZF C' M N' c st=some r:=by
 intro c
 induction c with
 | skip=>intro st r hr;simpa [ZF] using hr
 | region n draw ops=>
  intro st r hr;cases draw
  ·simp only[ZF,Znc] at hr ⊢;exact Zcm (fun q hq=>Zu9 h _ _ _ _ _ _ hq) (fun _ h=>h) hr
  ·simp only[ZF,Znc,ZrV] at hr ⊢;exact Zcm (fun q hq=>Zcm (fun q hq=>Zne h _ _ _ _ _ _ _ hq) (fun _ h=>h) hq) (fun _ h=>h) hr
 | seq a b iha ihb=>
  intro st r hr;simp only[ZF] at hr ⊢;cases ha:ZF C M N a st with
  | none=>simp[ha,andThen] at hr
  | some q=>
   rw[ha] at hr;rw[iha _ _ ha];obtain⟨e,aa⟩:=q;cases e with
   | normal=>exact ihb _ _ hr
   | exit id=>exact hr
   | ret=>exact hr
 | cond c a b iha ihb=>
  intro st r hr;simp only[ZF,Zjq] at hr ⊢;split at hr
  ·rename_i t ht;cases t
   ·simp only[Ka,Kq] at hr ⊢;exact ihb _ _ hr
   ·simp only[Km] at hr ⊢;exact iha _ _ hr
  ·cases hr
 | block id c ih=>
  intro st r hr;simp only[ZF] at hr ⊢;cases hc:ZF C M N c st with
  | none=>simp[hc,ZhV] at hr
  | some q=>rw[hc] at hr;rw[ih _ _ hc];exact hr
 | loop c ih=>
  intro st r hr;simp only[ZF] at hr ⊢;exact Znf ih _ _ _ _ _ hN hr
 | exit id=>intro st r hr;simpa [ZF] using hr
 | ret=>intro st r hr;simpa [ZF] using hr
 | keep K c ih=>
  intro st r hr;simp only[ZF] at hr ⊢;cases hc:ZF C M N c st with
  | none=>simp[hc,Zpc] at hr
  | some q=>rw[hc] at hr;rw[ih _ _ hc];exact hr
 | stuck=>intro st r hr;simp[ZF] at hr
 | link id i j c ih=>
  intro st r hr;simp only[ZF] at hr ⊢;obtain⟨aa,h1,h2⟩:=Za hr;rw[h1,Zg];exact ih aa r h2
 | melt c ih=>
  intro st r hr;simp only[ZF] at hr ⊢;exact ih _ r hr
theorem ZBB (h:C.le C') {N N' : Nat} (hN:N≤N') {f:Zr} {as:List AV} {hh:List Zm} {r:AV×List Zm}
  (hr:Znd C M N f as hh=some r):Znd C' M N' f as hh=some r:=by
 unfold Znd at hr ⊢;by_cases hl:as.length≤f.nt
 ·rw[Kh hl] at hr ⊢;cases hv:ZF C M N f.body { sl:=Wp 0 as,hp:=VN 0 hh,nx:=hh.length,m:=hh.length } with
  | none=>simp[hv,Zcl] at hr
  | some q=>rw[hv] at hr;rw[Zp2 h hN _ _ _ hv];exact hr
 ·rw[Kd hl] at hr;cases hr
end
section
variable (X:Fns) (M:Zp)
theorem Zok:∀ n,(Qp X M n).le (Qp X M (n+1)):=by
 intro n
 induction n with
 | zero=>intro f as h r hr;simp[Qp] at hr
 | succ n ih=>
  intro f as h r hr;rw[Qp] at hr ⊢;cases hf:X f with
  | none=>rw[hf] at hr;cases hr
  | some g=>
   rw[hf] at hr;cases g with
   | text g=>exact ZBB ih (Nat.le_succ n) hr
   | prim p=>exact hr
noncomputable def Ze (f:Nat) (as:List AV) (h:List Zm):Option (AV×List Zm):=lim fun n=>Qp X M n f as h
noncomputable def QW (c:ZZ) (st:St):Option (Ex×St):=lim fun n=>ZF (Qp X M n) M n c st
theorem Zeq (f:Nat) (as:List AV) (h:List Zm):ZAi fun n=>Qp X M n f as h:=fun n r hr=>Zok X M n f as h r hr
theorem Zg8 (n:Nat):(Qp X M n).le (Ze X M):=fun f as h _ hr=>ZlP (Zeq X M f as h) hr
theorem ZlQ (c:ZZ) (st:St):ZAi fun n=>ZF (Qp X M n) M n c st:=fun n r hr=>Zp2 (Zok X M n) (Nat.le_succ n) c st r hr
theorem ZdZ {n m:Nat} (h:n≤m):(Qp X M n).le (Qp X M m):=fun f as hh _ hr=>(Zeq X M f as hh).le hr h
theorem ZwF {m:Nat→Bool} {hp:Hp} {base f:Nat} {aa:List AV} {r:Zd}
  (hr:Zcy (Ze X M) m hp base f aa=some r):∃ n,Zcy (Qp X M n) m hp base f aa=some r:=by
 unfold Zcy at hr ⊢;obtain⟨as,ab,hr⟩:=Za hr;simp only[ab,Zg];unfold Zek at hr ⊢;by_cases hc:(as.flatMap ZC).all (QQ hp (Xh hp) (as.flatMap ZC) []).contains∧¬(Vf aa as).any (QQ hp (Xh hp) (as.flatMap ZC) []).contains∧ZcP hp (as.flatMap Zb1) (QQ hp (Xh hp) (as.flatMap ZC) [])=true
 ·rw[Kh hc] at hr;obtain⟨q,hq,hr⟩:=Za hr;obtain⟨n,hn⟩:=Zjr hq;refine⟨n,?_⟩;rw[Kh hc,hn];exact hr
 ·rw[Kd hc] at hr;cases hr
theorem Zol {sl:Sl} {hp:Hp} {base:Nat} {o:COp} {r:Zd} (hr:vop (Ze X M) M sl hp base o=some r) :
  ∃ n,vop (Qp X M n) M sl hp base o=some r:=by
 cases o with
 | call f as=>
  simp only[vop] at hr ⊢;cases hg:evO sl f<;>simp only[hg,ZdQ] at hr ⊢ <;> first | exact ZwF X M hr | exact⟨0,hr⟩
 | _=>exact⟨0,hr⟩
theorem Zya (nx:Nat):∀ (l:List CO) (i:Nat) (sl:Sl) (hp:Hp) (r:Sl×Hp),
  ZfX (Ze X M) M nx i l sl hp=some r→∃ n,ZfX (Qp X M n) M nx i l sl hp=some r:=by
 intro l
 induction l with
 | nil=>intro i sl hp r hr;exact⟨0,hr⟩
 | cons o rest ih=>
  intro i sl hp r hr;simp only[ZfX] at hr ⊢;obtain⟨b,hb,hr⟩:=Za hr;simp only[hb,Zg];cases b
  ·simp only[Ka,Kq] at hr ⊢;exact ih _ _ _ _ hr
  ·simp only[Km] at hr ⊢;obtain⟨q,hq,hr⟩:=Za hr;unfold Y3 at hq;obtain⟨e,he,hq⟩:=Za hq;obtain⟨n1,h1⟩:=Zol X M he;obtain⟨n2,h2⟩:=ih _ _ _ _ hr;refine⟨max n1 n2,?_⟩;unfold Y3;rw[Zu8 (ZdZ X M (L8 n1 n2)) h1,Zg,hq,Zg];exact Zu9 (ZdZ X M (L4 n1 n2)) _ _ _ _ _ _ h2
theorem Zyb {nx i:Nat} {t:Bool} {o:COp} {sl:Sl} {hp:Hp} {e:Zd} (he:WY (Ze X M) M nx i t o sl hp=some e) :
  ∃ n,WY (Qp X M n) M nx i t o sl hp=some e:=by
 unfold WY at he ⊢;cases t
 ·simp only[Ka,Kq,ZdY] at he ⊢;obtain⟨e',aa,h2⟩:=Za he;obtain⟨n,hn⟩:=Zol X M aa;exact⟨n,by rw[hn];exact h2⟩
 ·simp only[Km] at he ⊢;exact Zol X M he
theorem ZwG (nx:Nat):∀ (l:List CO) (i:Nat) (t:Bool) (sl:Sl) (hp:Hp) (r:Sl×Hp),
  Jr (Ze X M) M nx i t l sl hp=some r→∃ n,Jr (Qp X M n) M nx i t l sl hp=some r:=by
 intro l
 induction l with
 | nil=>intro i t sl hp r hr;exact⟨0,hr⟩
 | cons o rest ih=>
  intro i t sl hp r hr;simp only[Jr] at hr ⊢;obtain⟨b,hb,hr⟩:=Za hr;simp only[hb,Zg];cases b
  ·simp only[Ka,Kq] at hr ⊢;exact ih _ _ _ _ _ hr
  ·simp only[Km] at hr ⊢;obtain⟨q,hq,hr⟩:=Za hr;unfold Y3 at hq;obtain⟨e,he,hq⟩:=Za hq;obtain⟨n1,h1⟩:=Zyb X M he;obtain⟨n2,h2⟩:=ih _ _ _ _ _ hr;refine⟨max n1 n2,?_⟩;unfold Y3;rw[Zy6 (ZdZ X M (L8 n1 n2)) h1,Zg,hq,Zg];exact Zne (ZdZ X M (L4 n1 n2)) _ _ _ _ _ _ _ h2
theorem Xv {c:ZZ} {st:St} {n:Nat} {r:Ex×St} (h:ZF (Qp X M n) M n c st=some r):QW X M c st=some r:=
 ZlP (ZlQ X M c st) h
theorem VL {α:Type} {x:Nat→Option α} (h:∀ n,x n=none):lim x=none:=by
 cases hx:lim x with
 | none=>rfl
 | some r=>obtain⟨n,hn⟩:=Zjr hx;rw[h n] at hn;cases hn
theorem Zyc (st:St):QW X M .skip st=some (.normal,st):=Xv X M (n:=0) (by simp[ZF])
theorem Zyd (id:Nat) (st:St):QW X M (.exit id) st=some (.exit id,st):=Xv X M (n:=0) (by simp[ZF])
theorem ZAj (st:St):QW X M .ret st=some (.ret,st):=Xv X M (n:=0) (by simp[ZF])
theorem Zva (n:Nat) (ops:List CO) (st:St) :
  QW X M (.region n none ops) st=Znc st.m (st.nx+64*n) (ZfX (Ze X M) M st.nx 0 ops st.sl st.hp):=by
 cases h:ZfX (Ze X M) M st.nx 0 ops st.sl st.hp with
 | some r=>
  obtain⟨k,hk⟩:=Zya X M _ _ _ _ _ _ h;exact Xv X M (n:=k) (by simp only[ZF,hk,Znc,Zg])
 | none=>
  refine VL fun k=>?_;simp only[ZF];cases hn:ZfX (Qp X M k) M st.nx 0 ops st.sl st.hp with
  | none=>rfl
  | some r=>rw[Zu9 (Zg8 X M k) _ _ _ _ _ _ hn] at h;cases h
theorem Zye (n:Nat) (ps:List (Nat×Nat)) (ops:List CO) (st:St) :
  QW X M (.region n (some ps) ops) st=Znc st.m (st.nx+64*n) (ZrV ops ps (Jr (Ze X M) M st.nx 0 false ops st.sl st.hp)):=by
 cases h:Jr (Ze X M) M st.nx 0 false ops st.sl st.hp with
 | some r=>
  obtain⟨k,hk⟩:=ZwG X M _ _ _ _ _ _ _ h;cases hs:ZrV ops ps (some r) with
  | none=>
   refine VL fun k'=>?_;simp only[ZF];cases hn:Jr (Qp X M k') M st.nx 0 false ops st.sl st.hp with
   | none=>rfl
   | some r' =>
    have:=Zne (Zg8 X M k') _ _ _ _ _ _ _ hn;rw[h] at this;cases this;rw[hs];rfl
  | some r'=>exact Xv X M (n:=k) (by simp only[ZF,hk,hs];rfl)
 | none=>
  refine VL fun k=>?_;simp only[ZF];cases hn:Jr (Qp X M k) M st.nx 0 false ops st.sl st.hp with
  | none=>rfl
  | some r=>rw[Zne (Zg8 X M k) _ _ _ _ _ _ _ hn] at h;cases h
theorem ZaY {c:ZZ} {st:St} {r:Ex×St} (h:QW X M c st=some r):∃ n,∀ m,n≤m→ZF (Qp X M m) M m c st=some r:=by
 obtain⟨n,hn⟩:=Zjr h;exact⟨n,fun m hm=>(ZlQ X M c st).le hn hm⟩
theorem ZAk (a b:ZZ) (st:St):QW X M (.seq a b) st=andThen (QW X M a st) (QW X M b):=by
 cases ha:QW X M a st with
 | none=>
  refine VL fun n=>?_;cases h:ZF (Qp X M n) M n a st with
  | none=>simp[ZF,h,andThen]
  | some q=>rw[Xv X M h] at ha;cases ha
 | some q=>
  obtain⟨e,aa⟩:=q;obtain⟨n,hn⟩:=ZaY X M ha;cases e with
  | normal=>
   simp only[andThen];cases hb:QW X M b aa with
   | none=>
    refine VL fun k=>?_;cases h:ZF (Qp X M k) M k (.seq a b) st with
    | none=>rfl
    | some q=>
     have h1:=(ZlQ X M (.seq a b) st).le h (L8 k n);simp only[ZF,hn _ (L4 k n),andThen] at h1;rw[Xv X M h1] at hb;cases hb
   | some q=>
    obtain⟨m,hm⟩:=ZaY X M hb;refine Xv X M (n:=max n m) ?_;simp only[ZF,hn _ (L8 n m),andThen,hm _ (L4 n m)]
  | exit id=>exact Xv X M (n:=n) (by simp only[ZF,hn _ (Kt n),andThen])
  | ret=>exact Xv X M (n:=n) (by simp only[ZF,hn _ (Kt n),andThen])
theorem Zyf (c:Opd) (a b:ZZ) (st:St) :
  QW X M (.cond c a b) st=Zjq (evO st.sl c) (QW X M a st) (QW X M b st):=by
 unfold Zjq;split
 ·rename_i t h;cases t
  ·simp only[Ka,Kq,QW,ZF,h,Zjq]
  ·simp only[Km,QW,ZF,h,Zjq]
 ·rename_i h;refine VL fun n=>?_;simp only[ZF,Zjq]
theorem ZwH (id:Nat) (c:ZZ) (st:St):QW X M (.block id c) st=ZhV id (QW X M c st):=by
 cases hc:QW X M c st with
 | none=>
  refine VL fun n=>?_;cases h:ZF (Qp X M n) M n c st with
  | none=>simp[ZF,h,ZhV]
  | some q=>rw[Xv X M h] at hc;cases hc
 | some q=>
  obtain⟨n,hn⟩:=ZaY X M hc;cases hb:ZhV id (some q) with
  | none=>
   obtain⟨e,aa⟩:=q;cases e<;>simp[ZhV] at hb
   split at hb<;>cases hb
  | some r=>exact Xv X M (n:=n) (by simp only[ZF,hn _ (Kt n),hb])
theorem Zyg (K:List Nat) (c:ZZ) (st:St):QW X M (.keep K c) st=Zpc K (QW X M c st):=by
 cases hc:QW X M c st with
 | none=>
  refine VL fun n=>?_;cases h:ZF (Qp X M n) M n c st with
  | none=>simp[ZF,h,Zpc]
  | some q=>rw[Xv X M h] at hc;cases hc
 | some q=>
  obtain⟨n,hn⟩:=ZaY X M hc;exact Xv X M (n:=n) (by simp only[ZF,hn _ (Kt n),Zpc])
theorem Zyh (id:Nat) (i:Opd) (j:Nat) (c:ZZ) (st:St):QW X M (.link id i j c) st=bnd (Ze3 id i j st) (QW X M c):=by
 cases hl:Ze3 id i j st with
 | none=>
  refine VL fun n=>?_;simp only[ZF,hl];rfl
 | some st' =>
  rw[Zg];cases hc:QW X M c st' with
  | none=>
   refine VL fun n=>?_;cases h:ZF (Qp X M n) M n c st' with
   | none=>simp only[ZF,hl,Zg,h]
   | some q=>rw[Xv X M h] at hc;cases hc
  | some q=>
   obtain⟨n,hn⟩:=ZaY X M hc;exact Xv X M (n:=n) (by simp only[ZF,hl,Zg,hn _ (Kt n)])
theorem Zyi (c:ZZ) (st:St):QW X M (.melt c) st=QW X M c (Zu7 st):=by
 cases hc:QW X M c (Zu7 st) with
 | none=>
  refine VL fun n=>?_;cases h:ZF (Qp X M n) M n c (Zu7 st) with
  | none=>simp only[ZF,h]
  | some q=>rw[Xv X M h] at hc;cases hc
 | some q=>
  obtain⟨n,hn⟩:=ZaY X M hc;exact Xv X M (n:=n) (by simp only[ZF,hn _ (Kt n)])
noncomputable def Zjs (c:ZZ) (K:List Nat) (st:St):Option (Ex×St):=lim fun n=>Js (ZF (Qp X M n) M n c) K n st
theorem Zer (c:ZZ) (K:List Nat) (st:St):ZAi fun n=>Js (ZF (Qp X M n) M n c) K n st:=fun n r hr=>
 Znf (fun _ _ h=>Zp2 (Zok X M n) (Nat.le_succ n) c _ _ h) K n (n+1) st r (Nat.le_succ n) hr
theorem Zyj (c:ZZ) (st:St):QW X M (.loop c) st=Zjs X M c (ZlN st.sl) st:=by
 simp only[QW,Zjs,ZF]
theorem ZwI {c:ZZ} {K:List Nat} {st aa : St} (h:QW X M c (WW K st)=some (.normal,aa)) :
  Zjs X M c K st=Zjs X M c K aa:=by
 obtain⟨n,hn⟩:=ZaY X M h;cases hl:Zjs X M c K aa with
 | none=>
  refine VL fun k=>?_;cases hk:Js (ZF (Qp X M k) M k c) K k st with
  | none=>rfl
  | some q=>
   have h1:=(Zer X M c K st).le hk (show k≤max k n+1 by omega);simp only[Js] at h1;rw[hn (max k n+1) (by omega)] at h1;simp only[] at h1;have h2:=Znf (fun _ _ h=>h) K (max k n) (max k n+1) aa q (Nat.le_succ _) h1;rw[show Zjs X M c K aa=some q from ZlP (Zer X M c K aa) h2] at hl;cases hl
 | some q=>
  obtain⟨m,hm⟩:=Zjr hl;refine ZlP (Zer X M c K st) (n:=max n m+1) ?_;simp only[Js,hn (max n m+1) (by omega)];exact Znf (fun _ _ h=>Zp2 (ZdZ X M (show m≤max n m+1 by omega)) (show m≤max n m+1 by omega) c _ _ h) K m (max n m) aa q (by omega) hm
theorem ZrW {c:ZZ} {K:List Nat} {st aa : St} {e:Ex} (he:e≠.normal) (h:QW X M c (WW K st)=some (e,aa)) :
  Zjs X M c K st=some (e,aa):=by
 obtain⟨n,hn⟩:=ZaY X M h;refine ZlP (Zer X M c K st) (n:=n+1) ?_;simp only[Js,hn (n+1) (by omega)];cases e with
 | normal=>exact absurd rfl he
 | exit id=>rfl
 | ret=>rfl
theorem ZBC {f:Nat} {as:List AV} {h:List Zm} {fn:Zr} {r:AV×List Zm} (hx:X f=some (.text fn))
  (hl:as.length≤fn.nt) (hr:Zcl h.length fn.res (QW X M fn.body { sl:=Wp 0 as,hp:=VN 0 h,nx:=h.length,m:=h.length })=some r) :
  Ze X M f as h=some r:=by
 cases hv:QW X M fn.body { sl:=Wp 0 as,hp:=VN 0 h,nx:=h.length,m:=h.length } with
 | none=>rw[hv] at hr;simp[Zcl] at hr
 | some q=>
  rw[hv] at hr;obtain⟨n,hn⟩:=ZaY X M hv;refine ZlP (Zeq X M f as h) (n:=n+1) ?_;simp only[Qp,hx,Zg7,Znd,hl,Km,hn n (Kt n)];exact hr
theorem We {f:Nat} {as:List AV} {h:List Zm} {p:List AV→List Zm→Option (AV×List Zm)} {r:AV×List Zm} (hx:X f=some (.prim p)) (hp:p as h=some r) :
  Ze X M f as h=some r:=
 ZlP (Zeq X M f as h) (n:=1) (by simp only[Qp,hx,Zg7,hp])
end
section
variable (P:Program)
def UT (nt:Nat):Code→Option ZZ
 | .skip=>some .skip
 | .region _ ops draw=>bnd (QM (Zpa P nt ops.toList) ops.toList) fun os=>if draw then (if ZrT ops os then some (.region ops.toList.length (some (ZdV ops os)) os) else some .stuck) else some (.region ops.toList.length none os)
 | .seq a b=>bnd (UT nt a) fun a=>bnd (UT nt b) fun b=>some (.seq a b)
 | .cond c a b=>bnd (Z6 c) fun c=>bnd (UT nt a) fun a=>bnd (UT nt b) fun b=>some (.cond c a b)
 | .block id c=>bnd (UT nt c) fun c=>some (.block id c)
 | .loop c=>bnd (UT nt c) fun c=>some (.loop c)
 | .exit id=>some (.exit id)
 | .ret=>some .ret
 | _=>some .stuck
def ZjY:COp→COp
 | .buildDp s _ xs=>.buildSl s xs
 | .asgDp s _ x=>.assign (some s) x
 | .appDp s b flat x y=>.append s b false flat x y
 | c=>c
def Zom:List CO→List CO
 | []=>[]
 | o :: r => { o with op:=ZjY o.op } :: Zom r
def Zyk:Option (List (Nat×Nat))→List CO→List CO
 | none,ops=>Zom ops
 | some _,ops=>ops
def Y4:ZZ→ZZ
 | .keep _ c=>Y4 c
 | .seq a b=>.seq (Y4 a) (Y4 b)
 | .cond c a b=>.cond c (Y4 a) (Y4 b)
 | .block id c=>.block id (Y4 c)
 | .loop c=>.loop (Y4 c)
 | .region n d ops=>.region n d (Zyk d ops)
 | .link _ _ _ c=>Y4 c
 | .melt c=>Y4 c
 | .skip=>.skip
 | .exit id=>.exit id
 | .ret=>.ret
 | .stuck=>.stuck
def Zon (cf:Zr):Zr := { nt:=cf.nt,res:=cf.res,body:=Y4 cf.body }
def cRes:ResultVar→Option ZsW
 | .tmp t=>some (.tmp t)
 | .cell a t=>bnd (ZfP P t) fun g=>some (.cell a g (P.cellsOf t))
def cFun (fn:Func):Option Zr:=bnd fn.body fun c=>bnd (UT P fn.ntmps c) fun b=>bnd (QM (cRes P) fn.results.toList) fun rs=>some { nt:=fn.ntmps,res:=rs,body:=b }
end
end Go.Abs
