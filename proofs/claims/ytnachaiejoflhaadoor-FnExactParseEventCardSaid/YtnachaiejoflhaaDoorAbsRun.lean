/- Own text. -/
import Derived.Test.YtnachaiejoflhaaDoorAbsOps
set_option linter.unusedVariables false
set_option linter.unusedSimpArgs false
namespace Go.Abs
open Go
inductive Ex where
 | normal
 | exit (id:Nat)
 | ret
def QD (lo hi:Nat):Hp→Bool
 | []=>true
 | (k,_) :: r=>decide (lo≤k)&&decide (k<hi)&&QD (k+1) hi r
def QL (gone:List Nat) (sl:Sl):Sl:=match gone with
 | []=>sl
 | _=>ZeY (kill gone) sl
def YG (gone:List Nat) (hp:Hp):Hp:=match gone with
 | []=>hp
 | _=>ZeY (QU gone) hp
def Zi (sl:Sl) (dst:Option Nat) (v:AV):Sl:=match dst with
 | some t=>ins sl t v
 | none=>sl
def Zb.on (e:Zb) (dst:Option Nat) (sl:Sl) (hp:Hp):Sl×Hp:=
 (Zi (QL e.gone sl) dst e.eff.val,e.eff.on (YG e.gone hp))
def XQ (base:Nat) (dst:Option Nat) (sl:Sl) (hp:Hp) (e:Option Zb):Option (Sl×Hp):=
 bnd e fun e=>if QD base (base+64) e.eff.adds then some (e.on dst sl hp) else none
def ZaV (want:Bool):AV→Option Bool
 | .d (.bool b)=>some (b==want)
 | .tup []=>some false
 | _=>none
def ZK (sl:Sl):Option (Nat×Bool)→Option Bool
 | none=>some true
 | some q=>ZaV q.2 (gs sl q.1)
inductive ZG where
 | skip
 | region (n:Nat) (draw:Option (List (Nat×Nat))) (ops:List CO)
 | seq (a b:ZG)
 | cond (c:Opd) (a b:ZG)
 | block (id:Nat) (c:ZG)
 | loop (c:ZG)
 | exit (id:Nat)
 | ret
 | keep (K:List Nat) (c:ZG)
 | stuck
 | link (fl:Bool) (id:Nat) (i:Opd) (j:Nat) (c:ZG)
 | melt (c:ZG)
inductive Zju where
 | tmp (t:Nat)
 | cell (a:Nat) (g:Bool) (s:Nat)
structure Qa where
 nt:Nat
 res:List Zju
 body:ZG
def ZmX (x:Option Opd):List Opd:=match x with
 | some y=>[y]
 | none=>[]
def Zr:COp→List Opd
 | .move x=>[x]
 | .assign _ x=>[x]
 | .pick c a b=>[c,a,b]
 | .alloc _ _=>[]
 | .box x=>[x]
 | .build _ ps=>ps.map fun q=>q.2.2
 | .buildSl _ xs=>xs
 | .load _ _ a=>[a]
 | .store _ _ a x=>[a,x]
 | .nilCheck x=>[x]
 | .bin _ _ x y=>[x,y]
 | .un _ x=>[x]
 | .eqA _ _ x y=>[x,y]
 | .convI _ x=>[x]
 | .convS x=>[x]
 | .fn _ cs=>cs
 | .make _ _ _ l c=>[l,c]
 | .slice _ x lo hi=>x :: (ZmX lo++ZmX hi)
 | .sliceS x lo hi=>x :: (ZmX lo++ZmX hi)
 | .slice0 x hi mx=>[x,hi,mx]
 | .shift _ x=>[x]
 | .part _ _ _ x=>[x]
 | .iaS _ x i=>[x,i]
 | .iaA _ _ x i=>[x,i]
 | .ixS x i=>[x,i]
 | .ixA _ _ _ x i=>[x,i]
 | .nth _ x=>[x]
 | .len x=>[x]
 | .lenS x=>[x]
 | .append _ _ _ _ x y=>[x,y]
 | .min x y=>[x,y]
 | .max x y=>[x,y]
 | .call f as=>f :: as
 | .slice3 _ x lo hi mx=>[x,lo,hi,mx]
 | .clear _ _ x=>[x]
 | .stuck=>[]
 | .buildT _ _ xs=>xs
 | .appT _ _ _ x y=>[x,y]
 | .asgT _ _ x=>[x]
 | .makeT _ _ _ _ l c=>[l,c]
def Zcx:COp→Bool
 | .store _ _ _ _=>true
 | _=>false
def isApp:COp→Bool
 | .append _ _ _ _ _ _=>true
 | _=>false
def Ziu (c:COp):Bool:=Zcx c || isApp c
def CO.starts (o:CO):Bool:=Zcx o.op || o.tl
def ZH (os:List CO) (i:Nat):Bool:=match os[i]? with
 | some o=>CO.starts o
 | none=>false
def Ud:Opd→List Nat
 | .t n=>[n]
 | _=>[]
def Ziv:Option (Nat×Bool)→List Nat
 | some q=>[q.1]
 | none=>[]
def looks (o:CO):List Nat:=(Zr o.op).flatMap Ud++Ziv o.guard
def Qr:Option Nat→List Nat→Bool
 | some d,l=>!l.contains d
 | none,_=>true
def WG:Option Nat→Option Nat→Bool
 | some d,some e=>d != e
 | _,_=>true
def Q4 (a b:CO):Bool:=Qr a.dst (looks b)&&WG a.dst b.dst&&Qr b.dst (looks a)
def XZ:Opd→Bool
 | .v a=>(Zl a).isEmpty&&!ZjE a
 | _=>true
def Zlx (os:List CO) (j i:Nat):Bool:=match os[j]?,os[i]? with
 | some a,some b=>Q4 a b
 | _,_=>false
def Y1:COp→Bool
 | .load _ _ _=>false
 | .store _ _ _ _=>false
 | .slice _ _ _ _=>false
 | .slice0 _ _ _=>false
 | .iaS _ _ _=>false
 | .len _=>false
 | .append _ _ _ _ _ _=>false
 | .buildSl _ _=>false
 | .buildT _ _ _=>false
 | .appT _ _ _ _ _=>false
 | .asgT _ _ _=>false
 | .makeT _ _ _ _ _ _=>false
 | .call _ _=>false
 | .slice3 _ _ _ _ _=>false
 | .clear _ _ _=>false
 | _=>true
def Wm:COp→Bool
 | .load _ _ _=>true
 | .slice _ _ _ _=>true
 | .slice0 _ _ _=>true
 | .iaS _ _ _=>true
 | .len _=>true
 | _=>false
def Zn7:COp→Bool
 | .clear _ _ _=>false
 | .store _ _ _ _=>false
 | .append _ _ _ _ _ _=>false
 | .buildSl _ _=>false
 | .buildT _ _ _=>false
 | .appT _ _ _ _ _=>false
 | .asgT _ _ _=>false
 | .makeT _ _ _ _ _ _=>false
 | .call _ _=>false
 | _=>true
def VX (os:List CO) (k:Nat):Option Nat:=match os[k]? with
 | some o=>o.dst
 | none=>none
def Zly (os:List CO) (k:Nat):List Nat:=match os[k]? with
 | some o=>looks o
 | none=>[]
def Ue (os:List CO) (k:Nat):Bool:=(List.range os.length).all fun q=>decide (q<k) || Qr (VX os q) (Zly os k)
def X5:COp→Bool
 | .move _=>true
 | _=>false
def ZaW:COp→Bool
 | .append _ _ _ _ _ _=>true
 | .buildSl _ _=>true
 | _=>false
def WT:COp→Bool
 | .call (.f _) _=>true
 | _=>false
def Zfm:COp→List Opd
 | .call _ as=>as
 | _=>[]
def Zn8:COp→Bool
 | .alloc _ _=>false
 | .box _=>false
 | .assign _ _=>false
 | .make _ _ _ _ _=>false
 | .fn _ _=>false
 | _=>true
def Zkd:COp→Bool
 | .buildSl _ _=>true
 | _=>false
def JO:AV→Bool
 | .d _=>true
 | .nil=>true
 | .nilp=>true
 | .nili=>true
 | _=>false
def Ym:List AV→Bool
 | []=>true
 | c :: r=>JO c&&Ym r
def ZgP:COp→Bool
 | .alloc _ cs=>Ym cs
 | _=>false
def Ziw (c:COp):Bool:=Wm c || Zkd c || (Y1 c&&Zn8 c) || ZgP c
def Zer:COp→Bool
 | .alloc _ cs=>Ym cs
 | .buildSl _ _=>true
 | .load _ _ _=>true
 | .nilCheck _=>true
 | .bin _ _ _ _=>true
 | .un _ _=>true
 | .convI _ _=>true
 | .shift _ _=>true
 | .iaS _ _ _=>true
 | .slice _ _ _ _=>true
 | .len _=>true
 | .sliceS _ _ _=>true
 | .lenS _=>true
 | _=>false
def ZsY:Option Nat→Bool
 | some _=>true
 | none=>false
def ZgC (os:List CO) (k:Nat):Bool:=ZsY (VX os k)&&(List.range os.length).all fun q=>q==k || WG (VX os q) (VX os k)
def Zes (os:List CO) (j i:Nat):Bool:=Ue os j&&Ue os i
def ZrR (os:List CO) (j i:Nat) (a b:COp):Bool:=
 Zn7 b || (Ziu b&&(Y1 a || (!X5 a&&Wm a&&Zes os j i))) || (X5 a&&(ZaW b || ZgC os j)) || (!X5 a&&WT b&&Ziw a&&Zes os j i&&ZgC os j)
def ZrS (os:List CO) (j i:Nat) (a b:COp):Bool:=(X5 b&&ZgC os i) || (!X5 b&&WT a&&Zer b&&Zes os j i&&ZgC os i)
def Zlz (os:List CO) (j i:Nat):Bool:=match os[j]?,os[i]? with
 | some a,some b=>if ZH os j then !ZH os i&&ZrS os j i a.op b.op else !ZH os i || ZrR os j i a.op b.op
 | _,_=>false
def ZaX (os:List CO) (j i:Nat):Option (Nat×Nat):=match os[j]?,os[i]? with
 | some a,some b=>if ZH os j then (if X5 b.op || WT a.op then some (i,j) else none) else
   if ZH os i&&(if Ziu b.op then !(Y1 a.op) else if X5 a.op then !(ZaW b.op) else WT b.op) then some (j,i) else none
 | _,_=>none
def optP:Option (Nat×Nat)→List (Nat×Nat)
 | some p=>[p]
 | none=>[]
def Jc (ops:Array Oper) (os:List CO):List (Nat×Nat):=
 (List.range ops.size).flatMap fun i=>(List.range i).flatMap fun j=>if Zdx ops 6 i j then [] else optP (ZaX os j i)
def Zix (ops:Array Oper) (os:List CO):Bool:=
 (List.range ops.size).all (fun i=>(YE ops i).all fun e=>decide (e<i)) &&
 (List.range ops.size).all (fun i=>(List.range i).all fun j=>(YE ops i).contains j || Zlx os j i) &&
 (List.range ops.size).all (fun i=>(List.range i).all fun j=>Zdx ops 6 i j || Zlz os j i) &&
 os.all (fun o=>(Zr o.op).all XZ)
def Jd (id:Nat):AV→Bool
 | .d _=>true
 | .pim _=>true
 | .nil=>true
 | .ptr k _=>k != id
 | .prow k _ _ _=>k != id
 | .own k=>k != id
 | .ownv k _ _=>k != id
 | .nilp=>true
 | .nili=>true
 | .tup []=>true
 | _=>false
def okC:AV→Bool
 | .d _=>true
 | .pim _=>true
 | .nil=>true
 | .ptr _ _=>true
 | .prow _ _ _ _=>true
 | .own _=>true
 | .ownv _ _ _=>true
 | .nilp=>true
 | .nili=>true
 | _=>false
def ZlA:List AV→Bool
 | []=>true
 | v :: r=>okC v&&ZlA r
def okV:AV→Bool
 | .agg cs=>ZlA cs
 | .tup []=>true
 | v=>okC v
def okL (sl:Sl):List Opd→Bool
 | []=>true
 | x :: r=>okV (evO sl x)&&okL sl r
def okD (sl:Sl):Option Nat→Bool
 | some t=>okV (gs sl t)
 | none=>true
def Yn:AV→Option Nat
 | .ptr k _=>some k
 | .prow k _ _ _=>some k
 | _=>none
def Qy (sl:Sl) (id:Nat):List Opd→Bool
 | []=>true
 | x :: r=>Jd id (evO sl x)&&Qy sl id r
def ZaY (sl:Sl) (a:COp):Option Nat→Bool
 | some id=>Qy sl id (Zr a)
 | none=>false
def Je (sl:Sl) (xs:List Opd):AV→Bool
 | .ptr k _=>Qy sl k xs
 | .prow _ _ _ _=>false
 | _=>true
def ZbR (sl:Sl) (xs:List Opd):List Opd→Bool
 | []=>true
 | y :: r=>Je sl xs (evO sl y)&&ZbR sl xs r
def Wn (sl:Sl) (a:COp):AV→Bool
 | .nil=>true
 | .tup []=>true
 | .own k=>Qy sl k (Zr a)
 | .ownv k _ _=>Qy sl k (Zr a)
 | _=>false
def seenSrc (sl:Sl) (a:COp):AV→Bool
 | .own k=>Qy sl k (Zr a)
 | v=>okV v
def Xl (sl:Sl) (xs:List Opd):List Nat→Bool
 | []=>true
 | k :: r=>Qy sl k xs&&Xl sl xs r
def Yx (sl:Sl) (a:COp):AV→AV→Bool
 | .prow _ _ _ _,.d _=>true
 | .prow _ _ _ _,v=>okV v&&Xl sl (Zr a) (Zl v)
 | _,_=>true
def VM (sl:Sl) (d:Option Nat):COp→COp→Bool
 | .move _,_=>okD sl d
 | a,.store _ _ x y=>ZaY sl a (Yn (evO sl x))&&Yx sl a (evO sl x) (evO sl y)
 | a,.append _ _ _ flat x y=>Wn sl a (evO sl x)&&(flat || seenSrc sl a (evO sl y))
 | a,.call _ as=>okL sl (Zr a)&&(okD sl d&&(okL sl as&&ZbR sl (Zr a) as))
 | _,_=>false
def Zet (os:List CO) (sl:Sl) (p:Nat×Nat):Bool:=match os[p.1]?,os[p.2]? with
 | some a,some b=>VM sl a.dst a.op b.op
 | _,_=>false
def VE (os:List CO) (sl:Sl):List (Nat×Nat)→Bool
 | []=>true
 | p :: r=>Zet os sl p&&VE os sl r
def XV (M:Zh):Zh:=fun f i=>i != 99&&M f i
section
variable (C:Orc) (M:Zh)
noncomputable def ZbS (nx:Nat):Nat→List CO→Sl→Hp→Option (Sl×Hp)
 | _,[],sl,hp=>some (sl,hp)
 | i,o :: rest,sl,hp=>bnd (ZK sl o.guard) fun b=>
   if b then bnd (XQ (nx+64*i) o.dst sl hp (vop C M sl hp (nx+64*i) o.op)) fun r=>ZbS nx (i+1) rest r.1 r.2
   else ZbS nx (i+1) rest (Zi sl o.dst (.tup [])) hp
def ZaZ (c:Zb):List Nat→Hp→List Nat→List Nat→Option Zb
 | [],[],[],[]=>some c
 | _,_,_,_=>none
def Jf (e:Option Zb):Option Zb:=bnd e fun c=>ZaZ c c.gone c.eff.sets c.eff.dels c.eff.frz
noncomputable def YI (nx i:Nat) (tail:Bool) (o:COp) (sl:Sl) (hp:Hp):Option Zb:=
 if tail then vop C M sl hp (nx+64*i) o else Jf (vop C M sl hp (nx+64*i) o)
noncomputable def Wu (nx:Nat):Nat→Bool→List CO→Sl→Hp→Option (Sl×Hp)
 | _,_,[],sl,hp=>some (sl,hp)
 | i,t,o :: rest,sl,hp=>bnd (ZK sl o.guard) fun b=>
   if b then bnd (XQ (nx+64*i) o.dst sl hp (YI C M nx i (CO.starts o) o.op sl hp)) fun r=>Wu nx (i+1) t rest r.1 r.2
   else Wu nx (i+1) t rest (Zi sl o.dst (.tup [])) hp
def Uf {α:Type}:List (Nat×α)→List Nat
 | []=>[]
 | (k,_) :: r=>k :: Uf r
def only {α:Type} (K:List Nat):List (Nat×α)→List (Nat×α)
 | []=>[]
 | (k,v) :: r=>if K.contains k then (k,v) :: only K r else only K r
def YJ:Nat→List Zf→Hp
 | _,[]=>[]
 | k,o :: r=>YJ (k+1) r++[(k,o)]
def Zke:Sl→List Nat
 | []=>[]
 | (_,v) :: r=>Zl v++Zke r
def ZlB:Option Zf→Bool
 | some _=>true
 | none=>false
def JP (hp:Hp) (ids:List Nat) (i:Nat):Bool:=ids.contains i&&ZlB (lkp hp i)
def ZbT (hp:Hp) (ids:List Nat):List Nat→List Nat
 | []=>[]
 | i :: r=>if JP hp ids i then ZbT hp ids r else i :: ZbT hp ids r
def Zah (hp:Hp) (ids:List Nat) (v:AV):AV:=ren (YD ids) (kill (ZbT hp ids (Zl v)) v)
def ZbU (hp:Hp) (ids:List Nat) (o:Zf):Zf:=ZdW (YD ids) (QU (ZbT hp ids (Wb o)) o)
def Zn9:Option Zf→List Nat
 | some o=>Wb o
 | none=>[]
def Vc (hp:Hp):List Nat→List Nat
 | []=>[]
 | id :: r=>Zn9 (lkp hp id)++Vc hp r
def VY (K:List Nat) (st:St):St:=
 let sl:=only K st.sl
 let ids:=QF st.hp (Xe st.hp) (Zke sl++Vc st.hp (List.range st.m)) (List.range st.m)
 { sl:=ZeY (Zah st.hp ids) sl,hp:=YJ 0 ((JK st.hp ids).map (ZbU st.hp ids)),nx:=ids.length,m:=st.m }
def Wv (f:St→Option (Ex×St)) (K:List Nat):Nat→St→Option (Ex×St)
 | 0,_=>none
 | n+1,st=>match f (VY K st) with
  | some (.normal,st')=>Wv f K n st'
  | r=>r
def andThen (r:Option (Ex×St)) (k:St→Option (Ex×St)):Option (Ex×St):=match r with
 | some (.normal,st)=>k st
 | r=>r
def Zc0 (v:AV) (a b:Option (Ex×St)):Option (Ex×St):=match v with
 | .d (.bool t)=>if t then a else b
 | _=>none
def ZbV (id:Nat) (r:Option (Ex×St)):Option (Ex×St):=match r with
 | some (.exit j,st)=>if j=id then some (.normal,st) else some (.exit j,st)
 | r=>r
def Zkf (ops:List CO) (ps:List (Nat×Nat)) (r:Option (Sl×Hp)):Option (Sl×Hp):=bnd r fun r=>if VE ops r.1 ps then some r else none
def ZgD (m nx:Nat) (r:Option (Sl×Hp)):Option (Ex×St):=bnd r fun r=>some (.normal,{ sl:=r.1,hp:=r.2,nx:=nx,m:=m })
def Ziy (K:List Nat) (r:Option (Ex×St)):Option (Ex×St):=match r with
 | some q=>some (q.1,{ q.2 with sl:=only K q.2.sl })
 | none=>none
def Zo9 (fl:Bool) (k:Nat) (ys:List D):Option Zf:=if fl then (if Ur D.flat ys then some (.row k ys true false) else none) else some (.tree k k ys none)
def Zeu (xs:List D) (n j:Nat) (y:D):Option (List D):=bnd xs[n]? fun x=>some (xs.set n (Yf x j [y]))
def Zpa (fl:Bool) (nx n j:Nat):Option Zf→Option (Zf×Zf)
 | some (.tree s k xs none)=>bnd (Wk xs n j) fun ys=>bnd (Zo9 fl k ys) fun o=>bnd (Zeu xs n j (.sl [])) fun xs'=>some (.tree s k xs' (some (some nx,n,j)),o)
 | _=>none
def Za0 (fl:Bool) (id:Nat) (i:Opd) (j:Nat) (st:St):Option St:=bnd (idx (evO st.sl i)) fun n=>if 0≤n then bnd (Zpa fl st.nx n.toNat j (lkp st.hp id)) fun q=>some { st with hp:=ins (ins st.hp id q.1) st.nx q.2,nx:=st.nx+64 } else none
def Ziz (k:Nat):Option Zf→Option (List D)
 | some (.row k' ys true false)=>if k'=k∧Ur D.flat ys then some ys else none
 | some (.tree k' n ys none)=>if k'=k∧n=k then some ys else none
 | _=>none
def Zgb (hp:Hp) (id nm:Nat):Option Zf→Option Hp
 | some (.tree s k xs (some (some nm',n,j)))=>if nm'=nm then bnd (Ziz k (lkp hp nm)) fun ys=>bnd (Zeu xs n j (.sl ys)) fun xs'=>some (ins (del hp nm) id (.tree s k xs' none)) else none
 | _=>none
def Zqk (hp:Hp):Option Hp→Hp
 | some h=>h
 | none=>hp
def ZiA (id nm:Nat) (r:Option (Ex×St)):Option (Ex×St):=match r with
 | some q=>some (q.1,{ q.2 with hp:=Zqk q.2.hp (Zgb q.2.hp id nm (lkp q.2.hp id)) })
 | none=>none
def ZlC (st:St):St := { st with hp:=ZeY Zej st.hp }
noncomputable def Zu (N:Nat):ZG→St→Option (Ex×St)
 | .skip,st=>some (.normal,st)
 | .region n none ops,st=>ZgD st.m (st.nx+64*n) (ZbS C M st.nx 0 ops st.sl st.hp)
 | .region n (some ps) ops,st=>ZgD st.m (st.nx+64*n) (Zkf ops ps (Wu C (XV M) st.nx 0 false ops st.sl st.hp))
 | .seq a b,st=>andThen (Zu N a st) (Zu N b)
 | .cond c a b,st=>Zc0 (evO st.sl c) (Zu N a st) (Zu N b st)
 | .block id c,st=>ZbV id (Zu N c st)
 | .loop c,st=>Wv (Zu N c) (Uf st.sl) N st
 | .exit id,st=>some (.exit id,st)
 | .ret,st=>some (.ret,st)
 | .keep K c,st=>Ziy K (Zu N c st)
 | .stuck,_=>none
 | .link fl id i j c,st=>bnd (Za0 fl id i j st) fun st1=>ZiA id st.nx (Zu N c st1)
 | .melt c,st=>Zu N c (ZlC st)
def ZiB (st:St):Zju→Option AV
 | .tmp t=>some (gs st.sl t)
 | .cell a g s=>Vw st.hp g s (gs st.sl a)
def Y2 (m:Nat) (hp:Hp) (v:AV):AV×List Zf:=
 let ids:=QF hp (Xe hp) (Zl v++Vc hp (List.range m)) (List.range m)
 (Zah hp ids v,(JK hp ids).map (ZbU hp ids))
def Zpb:AV→Bool
 | .tup _=>true
 | _=>false
def ZdD:List AV→Bool
 | []=>false
 | v :: r=>Zpb v || ZdD r
def Jg:List AV→AV
 | [v]=>v
 | vs=>if ZdD vs then .junk else .tup vs
def YH:Nat→List AV→Sl
 | _,[]=>[]
 | k,v :: r=>YH (k+1) r++[(k,v)]
def JQ (m:Nat) (rs:List Zju) (r:Option (Ex×St)):Option (AV×List Zf):=match r with
 | some (.normal,st)=>bnd (Qe (ZiB st) rs) fun vs=>some (Y2 m st.hp (Jg vs))
 | some (.ret,st)=>bnd (Qe (ZiB st) rs) fun vs=>some (Y2 m st.hp (Jg vs))
 | _=>none
noncomputable def ZiC (N:Nat) (fn:Qa) (as:List AV) (h:List Zf):Option (AV×List Zf):=
 if as.length≤fn.nt then JQ h.length fn.res (Zu C M N fn.body { sl:=YH 0 as,hp:=YJ 0 h,nx:=h.length,m:=h.length }) else none
end
inductive Fn where
 | text (f:Qa)
 | prim (p:List AV→List Zf→Option (AV×List Zf))
abbrev Fns:=Nat→Option Fn
noncomputable def Zfn (C:Orc) (M:Zh) (N:Nat) (as:List AV) (h:List Zf):Option Fn→Option (AV×List Zf)
 | some (.text f)=>ZiC C M N f as h
 | some (.prim p)=>p as h
 | none=>none
noncomputable def Z2 (X:Fns) (M:Zh):Nat→Orc
 | 0,_,_,_=>none
 | n+1,f,as,h=>Zfn (Z2 X M n) M n as h (X f)
open Classical in
noncomputable def lim {α:Type} (x:Nat→Option α):Option α:=if h:∃ r,∃ n,x n=some r then some h.choose else none
def Zql {α:Type} (x:Nat→Option α):Prop:=∀ n r,x n=some r→x (n+1)=some r
theorem Zql.le {α:Type} {x:Nat→Option α} (h:Zql x) {n m:Nat} {r:α} (hr:x n=some r) (aa:n≤m):x m=some r:=by
 induction aa with
 | refl=>exact hr
 | step _ ih=>exact h _ _ ih
theorem ZdE {α:Type} {x:Nat→Option α} (h:Zql x) {n:Nat} {r:α} (hr:x n=some r):lim x=some r:=by
 have he:∃ r,∃ n,x n=some r:=⟨r,n,hr⟩
 unfold lim;rw[dif_pos he];obtain⟨m,hm⟩:=he.choose_spec;have h1:=h.le hm (LV m n);have h2:=h.le hr (LR m n);rw[h1] at h2;exact h2
theorem ZbW {α:Type} {x:Nat→Option α} {r:α} (hr:lim x=some r):∃ n,x n=some r:=by
 unfold lim at hr;split at hr
 ·rename_i h;obtain⟨n,hn⟩:=h.choose_spec;exact⟨n,by rw[hn];exact hr⟩
 ·cases hr
def Orc.le (C C' : Orc):Prop:=∀ f as h r,C f as h=some r→C' f as h=some r
section
variable {M:Zh} {C C' : Orc}
theorem Ug {α β:Type} {x x' : Option α} {f f' : α→Option β} {r:β} (hx:∀ a,x=some a→x'=some a) (hf:∀ a,f a=some r→f' a=some r) (h:bnd x f=some r):bnd x' f'=some r:=by
 obtain⟨a,h1,h2⟩:=Za h;rw[hx a h1];exact hf a h2
theorem ZrT (h:C.le C') {m:Nat→Bool} {hp:Hp} {base f:Nat} {aa:List AV} {r:Zb}
  (hr:Ju C m hp base f aa=some r):Ju C' m hp base f aa=some r:=by
 unfold Ju at hr ⊢;refine Ug (fun _ h=>h) (fun as hr=>?_) hr;unfold ZaL at hr ⊢;by_cases hc:(as.flatMap Zl).all (QF hp (Xe hp) (as.flatMap Zl) []).contains∧¬(XU aa as).any (QF hp (Xe hp) (as.flatMap Zl) []).contains∧Uy hp (as.flatMap Wt) (QF hp (Xe hp) (as.flatMap Zl) [])=true
 ·rw[Ko hc] at hr ⊢;exact Ug (fun q hq=>h _ _ _ _ hq) (fun _ h=>h) hr
 ·rw[Kf hc] at hr;cases hr
theorem ZlD (h:C.le C') {sl:Sl} {hp:Hp} {base:Nat} {o:COp} {r:Zb} (hr:vop C M sl hp base o=some r) :
  vop C' M sl hp base o=some r:=by
 cases o with
 | call f as=>
  simp only[vop] at hr ⊢;cases hg:evO sl f<;>simp only[hg,JM] at hr ⊢ <;> first | exact ZrT h hr | exact hr
 | _=>exact hr
theorem ZlE (h:C.le C') (nx:Nat):∀ (l:List CO) (i:Nat) (sl:Sl) (hp:Hp) (r:Sl×Hp),
  ZbS C M nx i l sl hp=some r→ZbS C' M nx i l sl hp=some r:=by
 intro l
 induction l with
 | nil=>intro i sl hp r hr;exact hr
 | cons o rest ih=>
  intro i sl hp r hr;simp only[ZbS] at hr ⊢;refine Ug (fun _ h=>h) (fun b hr=>?_) hr;cases b
  ·simp only[Ka,Km] at hr ⊢;exact ih _ _ _ _ hr
  ·simp only[Kk] at hr ⊢;refine Ug (fun q hq=>?_) (fun q hq=>ih _ _ _ _ hq) hr;unfold XQ at hq ⊢;exact Ug (fun e he=>ZlD h he) (fun _ h=>h) hq
theorem Zpc (h:C.le C') {nx i:Nat} {t:Bool} {o:COp} {sl:Sl} {hp:Hp} {e:Zb} (he:YI C M nx i t o sl hp=some e) :
  YI C' M nx i t o sl hp=some e:=by
 unfold YI at he ⊢;cases t
 ·simp only[Ka,Km,Jf] at he ⊢;exact Ug (fun _ hv=>ZlD h hv) (fun _ h=>h) he
 ·simp only[Kk] at he ⊢;exact ZlD h he
theorem Zev (h:C.le C') (nx:Nat):∀ (l:List CO) (i:Nat) (t:Bool) (sl:Sl) (hp:Hp) (r:Sl×Hp),
  Wu C M nx i t l sl hp=some r→Wu C' M nx i t l sl hp=some r:=by
 intro l
 induction l with
 | nil=>intro i t sl hp r hr;exact hr
 | cons o rest ih=>
  intro i t sl hp r hr;simp only[Wu] at hr ⊢;refine Ug (fun _ h=>h) (fun b hr=>?_) hr;cases b
  ·simp only[Ka,Km] at hr ⊢;exact ih _ _ _ _ _ hr
  ·simp only[Kk] at hr ⊢;refine Ug (fun q hq=>?_) (fun q hq=>ih _ _ _ _ _ hq) hr;unfold XQ at hq ⊢;exact Ug (fun e he=>Zpc h he) (fun _ h=>h) hq
theorem Zew {f g:St→Option (Ex×St)} (h:∀ st r,f st=some r→g st=some r) (K:List Nat) :
  ∀ (n m:Nat) (st:St) (r:Ex×St),n≤m→Wv f K n st=some r→Wv g K m st=some r:=by
 intro n
 induction n with
 | zero=>intro m st r _ hr;simp[Wv] at hr
 | succ n ih=>
  intro m st r hm hr;cases m with
  | zero=>omega
  | succ m=>
   simp only[Wv] at hr ⊢;cases hf:f (VY K st) with
   | none=>simp[hf] at hr
   | some q=>
    rw[hf] at hr;rw[h _ _ hf];obtain⟨e,aa⟩:=q;cases e with
    | normal=>exact ih m aa r (by omega) hr
    | exit id=>exact hr
    | ret=>exact hr
theorem ZgQ (h:C.le C') {N N' : Nat} (hN:N≤N'):∀ (c:ZG) (st:St) (r:Ex×St),
  Zu C M N c st=some r→Zu C' M N' c st=some r:=by
 intro c
 induction c with
 | skip=>intro st r hr;simpa [Zu] using hr
 | region n draw ops=>
  intro st r hr;cases draw
  ·simp only[Zu,ZgD] at hr ⊢;exact Ug (fun q hq=>ZlE h _ _ _ _ _ _ hq) (fun _ h=>h) hr
  ·simp only[Zu,ZgD,Zkf] at hr ⊢;exact Ug (fun q hq=>Ug (fun q hq=>Zev h _ _ _ _ _ _ _ hq) (fun _ h=>h) hq) (fun _ h=>h) hr
 | seq a b iha ihb=>
  intro st r hr;simp only[Zu] at hr ⊢;cases ha:Zu C M N a st with
  | none=>simp[ha,andThen] at hr
  | some q=>
   rw[ha] at hr;rw[iha _ _ ha];obtain⟨e,aa⟩:=q;cases e with
   | normal=>exact ihb _ _ hr
   | exit id=>exact hr
   | ret=>exact hr
 | cond c a b iha ihb=>
  intro st r hr;simp only[Zu,Zc0] at hr ⊢;split at hr
  ·rename_i t ht;cases t
   ·simp only[Ka,Km] at hr ⊢;exact ihb _ _ hr
   ·simp only[Kk] at hr ⊢;exact iha _ _ hr
  ·cases hr
 | block id c ih=>
  intro st r hr;simp only[Zu] at hr ⊢;cases hc:Zu C M N c st with
  | none=>simp[hc,ZbV] at hr
  | some q=>rw[hc] at hr;rw[ih _ _ hc];exact hr
 | loop c ih=>
  intro st r hr;simp only[Zu] at hr ⊢;exact Zew ih _ _ _ _ _ hN hr
 | exit id=>intro st r hr;simpa [Zu] using hr
 | ret=>intro st r hr;simpa [Zu] using hr
 | keep K c ih=>
  intro st r hr;simp only[Zu] at hr ⊢;cases hc:Zu C M N c st with
  | none=>simp[hc,Ziy] at hr
  | some q=>rw[hc] at hr;rw[ih _ _ hc];exact hr
 | stuck=>intro st r hr;simp[Zu] at hr
 | link fl id i j c ih=>
  intro st r hr;simp only[Zu] at hr ⊢;obtain⟨aa,h1,h2⟩:=Za hr;rw[h1,Zc];cases hc:Zu C M N c aa with
  | none=>simp[hc,ZiA] at h2
  | some q=>rw[hc] at h2;rw[ih _ _ hc];exact h2
 | melt c ih=>
  intro st r hr;simp only[Zu] at hr ⊢;exact ih _ r hr
theorem ZrU (h:C.le C') {N N' : Nat} (hN:N≤N') {f:Qa} {as:List AV} {hh:List Zf} {r:AV×List Zf}
  (hr:ZiC C M N f as hh=some r):ZiC C' M N' f as hh=some r:=by
 unfold ZiC at hr ⊢;by_cases hl:as.length≤f.nt
 ·rw[Ko hl] at hr ⊢;cases hv:Zu C M N f.body { sl:=YH 0 as,hp:=YJ 0 hh,nx:=hh.length,m:=hh.length } with
  | none=>simp[hv,JQ] at hr
  | some q=>rw[hv] at hr;rw[ZgQ h hN _ _ _ hv];exact hr
 ·rw[Kf hl] at hr;cases hr
end
section
variable (X:Fns) (M:Zh)
theorem Zfo:∀ n,(Z2 X M n).le (Z2 X M (n+1)):=by
 intro n
 induction n with
 | zero=>intro f as h r hr;simp[Z2] at hr
 | succ n ih=>
  intro f as h r hr;rw[Z2] at hr ⊢;cases hf:X f with
  | none=>rw[hf] at hr;cases hr
  | some g=>
   rw[hf] at hr;cases g with
   | text g=>exact ZrU ih (Nat.le_succ n) hr
   | prim p=>exact hr
noncomputable def Zj (f:Nat) (as:List AV) (h:List Zf):Option (AV×List Zf):=lim fun n=>Z2 X M n f as h
noncomputable def Qo (c:ZG) (st:St):Option (Ex×St):=lim fun n=>Zu (Z2 X M n) M n c st
theorem Jw (f:Nat) (as:List AV) (h:List Zf):Zql fun n=>Z2 X M n f as h:=fun n r hr=>Zfo X M n f as h r hr
theorem Za1 (n:Nat):(Z2 X M n).le (Zj X M):=fun f as h _ hr=>ZdE (Jw X M f as h) hr
theorem ZdF (c:ZG) (st:St):Zql fun n=>Zu (Z2 X M n) M n c st:=fun n r hr=>ZgQ (Zfo X M n) (Nat.le_succ n) c st r hr
theorem Jh {n m:Nat} (h:n≤m):(Z2 X M n).le (Z2 X M m):=fun f as hh _ hr=>(Jw X M f as hh).le hr h
theorem ZmY {m:Nat→Bool} {hp:Hp} {base f:Nat} {aa:List AV} {r:Zb}
  (hr:Ju (Zj X M) m hp base f aa=some r):∃ n,Ju (Z2 X M n) m hp base f aa=some r:=by
 unfold Ju at hr ⊢;obtain⟨as,ab,hr⟩:=Za hr;simp only[ab,Zc];unfold ZaL at hr ⊢;by_cases hc:(as.flatMap Zl).all (QF hp (Xe hp) (as.flatMap Zl) []).contains∧¬(XU aa as).any (QF hp (Xe hp) (as.flatMap Zl) []).contains∧Uy hp (as.flatMap Wt) (QF hp (Xe hp) (as.flatMap Zl) [])=true
 ·rw[Ko hc] at hr;obtain⟨q,hq,hr⟩:=Za hr;obtain⟨n,hn⟩:=ZbW hq;refine⟨n,?_⟩;rw[Ko hc,hn];exact hr
 ·rw[Kf hc] at hr;cases hr
theorem Zfp {M' : Zh} {sl:Sl} {hp:Hp} {base:Nat} {o:COp} {r:Zb} (hr:vop (Zj X M) M' sl hp base o=some r) :
  ∃ n,vop (Z2 X M n) M' sl hp base o=some r:=by
 cases o with
 | call f as=>
  simp only[vop] at hr ⊢;cases hg:evO sl f<;>simp only[hg,JM] at hr ⊢ <;> first | exact ZmY X M hr | exact⟨0,hr⟩
 | _=>exact⟨0,hr⟩
theorem Zoa (nx:Nat):∀ (l:List CO) (i:Nat) (sl:Sl) (hp:Hp) (r:Sl×Hp),
  ZbS (Zj X M) M nx i l sl hp=some r→∃ n,ZbS (Z2 X M n) M nx i l sl hp=some r:=by
 intro l
 induction l with
 | nil=>intro i sl hp r hr;exact⟨0,hr⟩
 | cons o rest ih=>
  intro i sl hp r hr;simp only[ZbS] at hr ⊢;obtain⟨b,hb,hr⟩:=Za hr;simp only[hb,Zc];cases b
  ·simp only[Ka,Km] at hr ⊢;exact ih _ _ _ _ hr
  ·simp only[Kk] at hr ⊢;obtain⟨q,hq,hr⟩:=Za hr;unfold XQ at hq;obtain⟨e,he,hq⟩:=Za hq;obtain⟨n1,h1⟩:=Zfp X M he;obtain⟨n2,h2⟩:=ih _ _ _ _ hr;refine⟨max n1 n2,?_⟩;unfold XQ;rw[ZlD (Jh X M (LV n1 n2)) h1,Zc,hq,Zc];exact ZlE (Jh X M (LR n1 n2)) _ _ _ _ _ _ h2
theorem Zob {M' : Zh} {nx i:Nat} {t:Bool} {o:COp} {sl:Sl} {hp:Hp} {e:Zb} (he:YI (Zj X M) M' nx i t o sl hp=some e) :
  ∃ n,YI (Z2 X M n) M' nx i t o sl hp=some e:=by
 unfold YI at he ⊢;cases t
 ·simp only[Ka,Km,Jf] at he ⊢;obtain⟨e',aa,h2⟩:=Za he;obtain⟨n,hn⟩:=Zfp X M aa;exact⟨n,by rw[hn];exact h2⟩
 ·simp only[Kk] at he ⊢;exact Zfp X M he
theorem ZmZ {M' : Zh} (nx:Nat):∀ (l:List CO) (i:Nat) (t:Bool) (sl:Sl) (hp:Hp) (r:Sl×Hp),
  Wu (Zj X M) M' nx i t l sl hp=some r→∃ n,Wu (Z2 X M n) M' nx i t l sl hp=some r:=by
 intro l
 induction l with
 | nil=>intro i t sl hp r hr;exact⟨0,hr⟩
 | cons o rest ih=>
  intro i t sl hp r hr;simp only[Wu] at hr ⊢;obtain⟨b,hb,hr⟩:=Za hr;simp only[hb,Zc];cases b
  ·simp only[Ka,Km] at hr ⊢;exact ih _ _ _ _ _ hr
  ·simp only[Kk] at hr ⊢;obtain⟨q,hq,hr⟩:=Za hr;unfold XQ at hq;obtain⟨e,he,hq⟩:=Za hq;obtain⟨n1,h1⟩:=Zob X M he;obtain⟨n2,h2⟩:=ih _ _ _ _ _ hr;refine⟨max n1 n2,?_⟩;unfold XQ;rw[Zpc (Jh X M (LV n1 n2)) h1,Zc,hq,Zc];exact Zev (Jh X M (LR n1 n2)) _ _ _ _ _ _ _ h2
theorem QW {c:ZG} {st:St} {n:Nat} {r:Ex×St} (h:Zu (Z2 X M n) M n c st=some r):Qo X M c st=some r:=
 ZdE (ZdF X M c st) h
theorem X6 {α:Type} {x:Nat→Option α} (h:∀ n,x n=none):lim x=none:=by
 cases hx:lim x with
 | none=>rfl
 | some r=>obtain⟨n,hn⟩:=ZbW hx;rw[h n] at hn;cases hn
theorem Zoc (st:St):Qo X M .skip st=some (.normal,st):=QW X M (n:=0) (by simp[Zu])
theorem Zod (id:Nat) (st:St):Qo X M (.exit id) st=some (.exit id,st):=QW X M (n:=0) (by simp[Zu])
theorem Zqm (st:St):Qo X M .ret st=some (.ret,st):=QW X M (n:=0) (by simp[Zu])
theorem ZlF (n:Nat) (ops:List CO) (st:St) :
  Qo X M (.region n none ops) st=ZgD st.m (st.nx+64*n) (ZbS (Zj X M) M st.nx 0 ops st.sl st.hp):=by
 cases h:ZbS (Zj X M) M st.nx 0 ops st.sl st.hp with
 | some r=>
  obtain⟨k,hk⟩:=Zoa X M _ _ _ _ _ _ h;exact QW X M (n:=k) (by simp only[Zu,hk,ZgD,Zc])
 | none=>
  refine X6 fun k=>?_;simp only[Zu];cases hn:ZbS (Z2 X M k) M st.nx 0 ops st.sl st.hp with
  | none=>rfl
  | some r=>rw[ZlE (Za1 X M k) _ _ _ _ _ _ hn] at h;cases h
theorem Zoe (n:Nat) (ps:List (Nat×Nat)) (ops:List CO) (st:St) :
  Qo X M (.region n (some ps) ops) st=ZgD st.m (st.nx+64*n) (Zkf ops ps (Wu (Zj X M) (XV M) st.nx 0 false ops st.sl st.hp)):=by
 cases h:Wu (Zj X M) (XV M) st.nx 0 false ops st.sl st.hp with
 | some r=>
  obtain⟨k,hk⟩:=ZmZ X M _ _ _ _ _ _ _ h;cases hs:Zkf ops ps (some r) with
  | none=>
   refine X6 fun k'=>?_;simp only[Zu];cases hn:Wu (Z2 X M k') (XV M) st.nx 0 false ops st.sl st.hp with
   | none=>rfl
   | some r' =>
    have:=Zev (Za1 X M k') _ _ _ _ _ _ _ hn;rw[h] at this;cases this;rw[hs];rfl
  | some r'=>exact QW X M (n:=k) (by simp only[Zu,hk,hs];rfl)
 | none=>
  refine X6 fun k=>?_;simp only[Zu];cases hn:Wu (Z2 X M k) (XV M) st.nx 0 false ops st.sl st.hp with
  | none=>rfl
  | some r=>rw[Zev (Za1 X M k) _ _ _ _ _ _ _ hn] at h;cases h
theorem Wo {c:ZG} {st:St} {r:Ex×St} (h:Qo X M c st=some r):∃ n,∀ m,n≤m→Zu (Z2 X M m) M m c st=some r:=by
 obtain⟨n,hn⟩:=ZbW h;exact⟨n,fun m hm=>(ZdF X M c st).le hn hm⟩
theorem Zqn (a b:ZG) (st:St):Qo X M (.seq a b) st=andThen (Qo X M a st) (Qo X M b):=by
 cases ha:Qo X M a st with
 | none=>
  refine X6 fun n=>?_;cases h:Zu (Z2 X M n) M n a st with
  | none=>simp[Zu,h,andThen]
  | some q=>rw[QW X M h] at ha;cases ha
 | some q=>
  obtain⟨e,aa⟩:=q;obtain⟨n,hn⟩:=Wo X M ha;cases e with
  | normal=>
   simp only[andThen];cases hb:Qo X M b aa with
   | none=>
    refine X6 fun k=>?_;cases h:Zu (Z2 X M k) M k (.seq a b) st with
    | none=>rfl
    | some q=>
     have h1:=(ZdF X M (.seq a b) st).le h (LV k n);simp only[Zu,hn _ (LR k n),andThen] at h1;rw[QW X M h1] at hb;cases hb
   | some q=>
    obtain⟨m,hm⟩:=Wo X M hb;refine QW X M (n:=max n m) ?_;simp only[Zu,hn _ (LV n m),andThen,hm _ (LR n m)]
  | exit id=>exact QW X M (n:=n) (by simp only[Zu,hn _ (Kg n),andThen])
  | ret=>exact QW X M (n:=n) (by simp only[Zu,hn _ (Kg n),andThen])
theorem Zof (c:Opd) (a b:ZG) (st:St) :
  Qo X M (.cond c a b) st=Zc0 (evO st.sl c) (Qo X M a st) (Qo X M b st):=by
 unfold Zc0;split
 ·rename_i t h;cases t
  ·simp only[Ka,Km,Qo,Zu,h,Zc0]
  ·simp only[Kk,Qo,Zu,h,Zc0]
 ·rename_i h;refine X6 fun n=>?_;simp only[Zu,Zc0]
theorem Zm0 (id:Nat) (c:ZG) (st:St):Qo X M (.block id c) st=ZbV id (Qo X M c st):=by
 cases hc:Qo X M c st with
 | none=>
  refine X6 fun n=>?_;cases h:Zu (Z2 X M n) M n c st with
  | none=>simp[Zu,h,ZbV]
  | some q=>rw[QW X M h] at hc;cases hc
 | some q=>
  obtain⟨n,hn⟩:=Wo X M hc;cases hb:ZbV id (some q) with
  | none=>
   obtain⟨e,aa⟩:=q;cases e<;>simp[ZbV] at hb
   split at hb<;>cases hb
  | some r=>exact QW X M (n:=n) (by simp only[Zu,hn _ (Kg n),hb])
theorem Zog (K:List Nat) (c:ZG) (st:St):Qo X M (.keep K c) st=Ziy K (Qo X M c st):=by
 cases hc:Qo X M c st with
 | none=>
  refine X6 fun n=>?_;cases h:Zu (Z2 X M n) M n c st with
  | none=>simp[Zu,h,Ziy]
  | some q=>rw[QW X M h] at hc;cases hc
 | some q=>
  obtain⟨n,hn⟩:=Wo X M hc;exact QW X M (n:=n) (by simp only[Zu,hn _ (Kg n),Ziy])
theorem Zoh (fl:Bool) (id:Nat) (i:Opd) (j:Nat) (c:ZG) (st:St):Qo X M (.link fl id i j c) st=bnd (Za0 fl id i j st) fun aa=>ZiA id st.nx (Qo X M c aa):=by
 cases hl:Za0 fl id i j st with
 | none=>
  refine X6 fun n=>?_;simp only[Zu,hl];rfl
 | some st' =>
  rw[Zc];cases hc:Qo X M c st' with
  | none=>
   refine X6 fun n=>?_;cases h:Zu (Z2 X M n) M n c st' with
   | none=>simp only[Zu,hl,Zc,h];rfl
   | some q=>rw[QW X M h] at hc;cases hc
  | some q=>
   obtain⟨n,hn⟩:=Wo X M hc;exact QW X M (n:=n) (by simp only[Zu,hl,Zc,hn _ (Kg n)];rfl)
theorem Zoi (c:ZG) (st:St):Qo X M (.melt c) st=Qo X M c (ZlC st):=by
 cases hc:Qo X M c (ZlC st) with
 | none=>
  refine X6 fun n=>?_;cases h:Zu (Z2 X M n) M n c (ZlC st) with
  | none=>simp only[Zu,h]
  | some q=>rw[QW X M h] at hc;cases hc
 | some q=>
  obtain⟨n,hn⟩:=Wo X M hc;exact QW X M (n:=n) (by simp only[Zu,hn _ (Kg n)])
noncomputable def ZbX (c:ZG) (K:List Nat) (st:St):Option (Ex×St):=lim fun n=>Wv (Zu (Z2 X M n) M n c) K n st
theorem Jx (c:ZG) (K:List Nat) (st:St):Zql fun n=>Wv (Zu (Z2 X M n) M n c) K n st:=fun n r hr=>
 Zew (fun _ _ h=>ZgQ (Zfo X M n) (Nat.le_succ n) c _ _ h) K n (n+1) st r (Nat.le_succ n) hr
theorem Zoj (c:ZG) (st:St):Qo X M (.loop c) st=ZbX X M c (Uf st.sl) st:=by
 simp only[Qo,ZbX,Zu]
theorem Zm1 {c:ZG} {K:List Nat} {st aa : St} (h:Qo X M c (VY K st)=some (.normal,aa)) :
  ZbX X M c K st=ZbX X M c K aa:=by
 obtain⟨n,hn⟩:=Wo X M h;cases hl:ZbX X M c K aa with
 | none=>
  refine X6 fun k=>?_;cases hk:Wv (Zu (Z2 X M k) M k c) K k st with
  | none=>rfl
  | some q=>
   have h1:=(Jx X M c K st).le hk (show k≤max k n+1 by omega);simp only[Wv] at h1;rw[hn (max k n+1) (by omega)] at h1;simp only[] at h1;have h2:=Zew (fun _ _ h=>h) K (max k n) (max k n+1) aa q (Nat.le_succ _) h1;rw[show ZbX X M c K aa=some q from ZdE (Jx X M c K aa) h2] at hl;cases hl
 | some q=>
  obtain⟨m,hm⟩:=ZbW hl;refine ZdE (Jx X M c K st) (n:=max n m+1) ?_;simp only[Wv,hn (max n m+1) (by omega)];exact Zew (fun _ _ h=>ZgQ (Jh X M (show m≤max n m+1 by omega)) (show m≤max n m+1 by omega) c _ _ h) K m (max n m) aa q (by omega) hm
theorem ZiD {c:ZG} {K:List Nat} {st aa : St} {e:Ex} (he:e≠.normal) (h:Qo X M c (VY K st)=some (e,aa)) :
  ZbX X M c K st=some (e,aa):=by
 obtain⟨n,hn⟩:=Wo X M h;refine ZdE (Jx X M c K st) (n:=n+1) ?_;simp only[Wv,hn (n+1) (by omega)];cases e with
 | normal=>exact absurd rfl he
 | exit id=>rfl
 | ret=>rfl
theorem ZrV {f:Nat} {as:List AV} {h:List Zf} {fn:Qa} {r:AV×List Zf} (hx:X f=some (.text fn))
  (hl:as.length≤fn.nt) (hr:JQ h.length fn.res (Qo X M fn.body { sl:=YH 0 as,hp:=YJ 0 h,nx:=h.length,m:=h.length })=some r) :
  Zj X M f as h=some r:=by
 cases hv:Qo X M fn.body { sl:=YH 0 as,hp:=YJ 0 h,nx:=h.length,m:=h.length } with
 | none=>rw[hv] at hr;simp[JQ] at hr
 | some q=>
  rw[hv] at hr;obtain⟨n,hn⟩:=Wo X M hv;refine ZdE (Jw X M f as h) (n:=n+1) ?_;simp only[Z2,hx,Zfn,ZiC,hl,Kk,hn n (Kg n)];exact hr
theorem ZiE {f:Nat} {as:List AV} {h:List Zf} {p:List AV→List Zf→Option (AV×List Zf)} {r:AV×List Zf} (hx:X f=some (.prim p)) (hp:p as h=some r) :
  Zj X M f as h=some r:=
 ZdE (Jw X M f as h) (n:=1) (by simp only[Z2,hx,Zfn,hp])
end
section
variable (P:Program)
def Vi (nt:Nat):Code→Option ZG
 | .skip=>some .skip
 | .region _ ops draw=>bnd (Qe (Zf8 P nt ops.toList) ops.toList) fun os=>if draw then (if Zix ops os then some (.region ops.toList.length (some (Jc ops os)) os) else some .stuck) else some (.region ops.toList.length none os)
 | .seq a b=>bnd (Vi nt a) fun a=>bnd (Vi nt b) fun b=>some (.seq a b)
 | .cond c a b=>bnd (ZJ c) fun c=>bnd (Vi nt a) fun a=>bnd (Vi nt b) fun b=>some (.cond c a b)
 | .block id c=>bnd (Vi nt c) fun c=>some (.block id c)
 | .loop c=>bnd (Vi nt c) fun c=>some (.loop c)
 | .exit id=>some (.exit id)
 | .ret=>some .ret
 | _=>some .stuck
def Za2:COp→COp
 | .buildT s _ xs=>.buildSl s xs
 | .asgT s _ x=>.assign (some s) x
 | .appT s b flat x y=>.append s b false flat x y
 | .makeT s b _ z l c=>.make s b z l c
 | c=>c
def Zfq:List CO→List CO
 | []=>[]
 | o :: r => { o with op:=Za2 o.op } :: Zfq r
def Zok:Option (List (Nat×Nat))→List CO→List CO
 | none,ops=>Zfq ops
 | some _,ops=>ops
def XR:ZG→ZG
 | .keep _ c=>XR c
 | .seq a b=>.seq (XR a) (XR b)
 | .cond c a b=>.cond c (XR a) (XR b)
 | .block id c=>.block id (XR c)
 | .loop c=>.loop (XR c)
 | .region n d ops=>.region n d (Zok d ops)
 | .link _ _ _ _ c=>XR c
 | .melt c=>XR c
 | .skip=>.skip
 | .exit id=>.exit id
 | .ret=>.ret
 | .stuck=>.stuck
def Zfr (cf:Qa):Qa := { nt:=cf.nt,res:=cf.res,body:=XR cf.body }
def cRes:ResultVar→Option Zju
 | .tmp t=>some (.tmp t)
 | .cell a t=>bnd (Zad P t) fun g=>some (.cell a g (P.cellsOf t))
def cFun (fn:Func):Option Qa:=bnd fn.body fun c=>bnd (Vi P fn.ntmps c) fun b=>bnd (Qe (cRes P) fn.results.toList) fun rs=>some { nt:=fn.ntmps,res:=rs,body:=b }
end
end Go.Abs
