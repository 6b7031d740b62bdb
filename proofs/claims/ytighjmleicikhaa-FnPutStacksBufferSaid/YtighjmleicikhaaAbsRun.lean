/- Own text. -/
import Derived.Test.YtighjmleicikhaaAbsOps
set_option linter.unusedVariables false
set_option linter.unusedSimpArgs false
namespace Go.Abs
open Go
inductive Ex where
 | normal
 | exit (id:Nat)
 | ret
def Qf (lo hi:Nat):Hp→Bool
 | []=>true
 | (k,_) :: r=>decide (lo≤k)&&decide (k<hi)&&Qf (k+1) hi r
def Qj (gone:List Nat) (sl:Sl):Sl:=match gone with
 | []=>sl
 | _=>Zb9 (kill gone) sl
def XL (gone:List Nat) (hp:Hp):Hp:=match gone with
 | []=>hp
 | _=>Zb9 (Qo gone) hp
def Zh (sl:Sl) (dst:Option Nat) (v:AV):Sl:=match dst with
 | some t=>ins sl t v
 | none=>sl
def Zb.on (e:Zb) (dst:Option Nat) (sl:Sl) (hp:Hp):Sl×Hp:=
 (Zh (Qj e.gone sl) dst e.eff.val,e.eff.on (XL e.gone hp))
def Q3 (base:Nat) (dst:Option Nat) (sl:Sl) (hp:Hp) (e:Option Zb):Option (Sl×Hp):=
 bnd e fun e=>if Qf base (base+64) e.eff.adds then some (e.on dst sl hp) else none
def UW (want:Bool):AV→Option Bool
 | .d (.bool b)=>some (b==want)
 | .tup []=>some false
 | _=>none
def ZC (sl:Sl):Option (Nat×Bool)→Option Bool
 | none=>some true
 | some q=>UW q.2 (gs sl q.1)
inductive Zy where
 | skip
 | region (n:Nat) (draw:Option (List (Nat×Nat))) (ops:List CO)
 | seq (a b:Zy)
 | cond (c:Opd) (a b:Zy)
 | block (id:Nat) (c:Zy)
 | loop (c:Zy)
 | exit (id:Nat)
 | ret
 | keep (K:List Nat) (c:Zy)
 | stuck
 | link (fl:Bool) (id:Nat) (i:Opd) (j:Nat) (c:Zy)
 | melt (c:Zy)
inductive ZfN where
 | tmp (t:Nat)
 | cell (a:Nat) (g:Bool) (s:Nat)
structure QK where
 nt:Nat
 res:List ZfN
 body:Zy
def ZjL (x:Option Opd):List Opd:=match x with
 | some y=>[y]
 | none=>[]
def Zo:COp→List Opd
 | .move x=>[x]
 | .assign _ x=>[x]
 | .pick c a b=>[c,a,b]
 | .alloc _ _=>[]
 | .box x=>[x]
 | .build _ ps=>ps.map fun q=>q.2.2
 | .buildSl _ xs=>xs
 | .load _ _ a=>[a]
 | .store _ _ a x=>[a,x]
 | .nilCheck x=>[x]
 | .bin _ _ x y=>[x,y]
 | .un _ x=>[x]
 | .eqA _ _ x y=>[x,y]
 | .convI _ x=>[x]
 | .convS x=>[x]
 | .fn _ cs=>cs
 | .make _ _ _ l c=>[l,c]
 | .slice _ x lo hi=>x :: (ZjL lo++ZjL hi)
 | .sliceS x lo hi=>x :: (ZjL lo++ZjL hi)
 | .slice0 x hi mx=>[x,hi,mx]
 | .shift _ x=>[x]
 | .part _ _ _ x=>[x]
 | .iaS _ x i=>[x,i]
 | .iaA _ _ x i=>[x,i]
 | .ixS x i=>[x,i]
 | .ixA _ _ _ x i=>[x,i]
 | .nth _ x=>[x]
 | .len x=>[x]
 | .lenS x=>[x]
 | .append _ _ _ _ x y=>[x,y]
 | .min x y=>[x,y]
 | .max x y=>[x,y]
 | .call f as=>f :: as
 | .slice3 _ x lo hi mx=>[x,lo,hi,mx]
 | .clear _ _ x=>[x]
 | .stuck=>[]
 | .buildT _ _ xs=>xs
 | .appT _ _ _ x y=>[x,y]
 | .asgT _ _ x=>[x]
 | .makeT _ _ _ _ l c=>[l,c]
def Zaj:COp→Bool
 | .store _ _ _ _=>true
 | _=>false
def isApp:COp→Bool
 | .append _ _ _ _ _ _=>true
 | _=>false
def ZeS (c:COp):Bool:=Zaj c || isApp c
def CO.starts (o:CO):Bool:=Zaj o.op || o.tl
def Zz (os:List CO) (i:Nat):Bool:=match os[i]? with
 | some o=>CO.starts o
 | none=>false
def VU:Opd→List Nat
 | .t n=>[n]
 | _=>[]
def ZeT:Option (Nat×Bool)→List Nat
 | some q=>[q.1]
 | none=>[]
def Xb (o:CO):List Nat:=(Zo o.op).flatMap VU++ZeT o.guard
def Z6:Option Nat→List Nat→Bool
 | some d,l=>!l.contains d
 | none,_=>true
def Vo:Option Nat→Option Nat→Bool
 | some d,some e=>d != e
 | _,_=>true
def Qw (a b:CO):Bool:=Z6 a.dst (Xb b)&&Vo a.dst b.dst&&Z6 b.dst (Xb a)
def Xd:Opd→Bool
 | .v a=>(Zj a).isEmpty&&!ZfW a
 | _=>true
def Zhs (os:List CO) (j i:Nat):Bool:=match os[j]?,os[i]? with
 | some a,some b=>Qw a b
 | _,_=>false
def X2:COp→Bool
 | .load _ _ _=>false
 | .store _ _ _ _=>false
 | .slice _ _ _ _=>false
 | .slice0 _ _ _=>false
 | .iaS _ _ _=>false
 | .len _=>false
 | .append _ _ _ _ _ _=>false
 | .buildSl _ _=>false
 | .buildT _ _ _=>false
 | .appT _ _ _ _ _=>false
 | .asgT _ _ _=>false
 | .makeT _ _ _ _ _ _=>false
 | .call _ _=>false
 | .slice3 _ _ _ _ _=>false
 | .clear _ _ _=>false
 | _=>true
def Y3:COp→Bool
 | .load _ _ _=>true
 | .slice _ _ _ _=>true
 | .slice0 _ _ _=>true
 | .iaS _ _ _=>true
 | .len _=>true
 | _=>false
def ZjM:COp→Bool
 | .clear _ _ _=>false
 | .store _ _ _ _=>false
 | .append _ _ _ _ _ _=>false
 | .buildSl _ _=>false
 | .buildT _ _ _=>false
 | .appT _ _ _ _ _=>false
 | .asgT _ _ _=>false
 | .makeT _ _ _ _ _ _=>false
 | .call _ _=>false
 | _=>true
def YH (os:List CO) (k:Nat):Option Nat:=match os[k]? with
 | some o=>o.dst
 | none=>none
def Zht (os:List CO) (k:Nat):List Nat:=match os[k]? with
 | some o=>Xb o
 | none=>[]
def VV (os:List CO) (k:Nat):Bool:=(List.range os.length).all fun q=>decide (q<k) || Z6 (YH os q) (Zht os k)
def Xe:COp→Bool
 | .move _=>true
 | _=>false
def UX:COp→Bool
 | .append _ _ _ _ _ _=>true
 | .buildSl _ _=>true
 | _=>false
def Vx:COp→Bool
 | .call (.f _) _=>true
 | _=>false
def Zcv:COp→List Opd
 | .call _ as=>as
 | _=>[]
def ZjN:COp→Bool
 | .alloc _ _=>false
 | .box _=>false
 | .assign _ _=>false
 | .make _ _ _ _ _=>false
 | .fn _ _=>false
 | _=>true
def Zgt:COp→Bool
 | .buildSl _ _=>true
 | _=>false
def W9:AV→Bool
 | .d _=>true
 | .nil=>true
 | .nilp=>true
 | .nili=>true
 | _=>false
def Xu:List AV→Bool
 | []=>true
 | c :: r=>W9 c&&Xu r
def ZdM:COp→Bool
 | .alloc _ cs=>Xu cs
 | _=>false
def ZeU (c:COp):Bool:=Y3 c || Zgt c || (X2 c&&ZjN c) || ZdM c
def ZbP:COp→Bool
 | .alloc _ cs=>Xu cs
 | .buildSl _ _=>true
 | .load _ _ _=>true
 | .nilCheck _=>true
 | .bin _ _ _ _=>true
 | .un _ _=>true
 | .convI _ _=>true
 | .shift _ _=>true
 | .iaS _ _ _=>true
 | .slice _ _ _ _=>true
 | .len _=>true
 | .sliceS _ _ _=>true
 | .lenS _=>true
 | _=>false
def ZnW:Option Nat→Bool
 | some _=>true
 | none=>false
def Zdw (os:List CO) (k:Nat):Bool:=ZnW (YH os k)&&(List.range os.length).all fun q=>q==k || Vo (YH os q) (YH os k)
def ZbQ (os:List CO) (j i:Nat):Bool:=VV os j&&VV os i
def ZmV (os:List CO) (j i:Nat) (a b:COp):Bool:=
 ZjM b || (ZeS b&&(X2 a || (!Xe a&&Y3 a&&ZbQ os j i))) || (Xe a&&(UX b || Zdw os j)) || (!Xe a&&Vx b&&ZeU a&&ZbQ os j i&&Zdw os j)
def ZmW (os:List CO) (j i:Nat) (a b:COp):Bool:=(Xe b&&Zdw os i) || (!Xe b&&Vx a&&ZbP b&&ZbQ os j i&&Zdw os i)
def Zhu (os:List CO) (j i:Nat):Bool:=match os[j]?,os[i]? with
 | some a,some b=>if Zz os j then !Zz os i&&ZmW os j i a.op b.op else !Zz os i || ZmV os j i a.op b.op
 | _,_=>false
def UY (os:List CO) (j i:Nat):Option (Nat×Nat):=match os[j]?,os[i]? with
 | some a,some b=>if Zz os j then (if Xe b.op || Vx a.op then some (i,j) else none) else
   if Zz os i&&(if ZeS b.op then !(X2 a.op) else if Xe a.op then !(UX b.op) else Vx b.op) then some (j,i) else none
 | _,_=>none
def optP:Option (Nat×Nat)→List (Nat×Nat)
 | some p=>[p]
 | none=>[]
def Ww (ops:Array Oper) (os:List CO):List (Nat×Nat):=
 (List.range ops.size).flatMap fun i=>(List.range i).flatMap fun j=>if Za3 ops 6 i j then [] else optP (UY os j i)
def ZeV (ops:Array Oper) (os:List CO):Bool:=
 (List.range ops.size).all (fun i=>(XJ ops i).all fun e=>decide (e<i)) &&
 (List.range ops.size).all (fun i=>(List.range i).all fun j=>(XJ ops i).contains j || Zhs os j i) &&
 (List.range ops.size).all (fun i=>(List.range i).all fun j=>Za3 ops 6 i j || Zhu os j i) &&
 os.all (fun o=>(Zo o.op).all Xd)
def Wx (id:Nat):AV→Bool
 | .d _=>true
 | .pim _=>true
 | .nil=>true
 | .ptr k _=>k != id
 | .prow k _ _ _=>k != id
 | .own k=>k != id
 | .ownv k _ _=>k != id
 | .nilp=>true
 | .nili=>true
 | .tup []=>true
 | _=>false
def okC:AV→Bool
 | .d _=>true
 | .pim _=>true
 | .nil=>true
 | .ptr _ _=>true
 | .prow _ _ _ _=>true
 | .own _=>true
 | .ownv _ _ _=>true
 | .nilp=>true
 | .nili=>true
 | _=>false
def Zhv:List AV→Bool
 | []=>true
 | v :: r=>okC v&&Zhv r
def okV:AV→Bool
 | .agg cs=>Zhv cs
 | .tup []=>true
 | v=>okC v
def okL (sl:Sl):List Opd→Bool
 | []=>true
 | x :: r=>okV (evO sl x)&&okL sl r
def okD (sl:Sl):Option Nat→Bool
 | some t=>okV (gs sl t)
 | none=>true
def Xv:AV→Option Nat
 | .ptr k _=>some k
 | .prow k _ _ _=>some k
 | _=>none
def Qb (sl:Sl) (id:Nat):List Opd→Bool
 | []=>true
 | x :: r=>Wx id (evO sl x)&&Qb sl id r
def UZ (sl:Sl) (a:COp):Option Nat→Bool
 | some id=>Qb sl id (Zo a)
 | none=>false
def Wy (sl:Sl) (xs:List Opd):AV→Bool
 | .ptr k _=>Qb sl k xs
 | .prow _ _ _ _=>false
 | _=>true
def JF (sl:Sl) (xs:List Opd):List Opd→Bool
 | []=>true
 | y :: r=>Wy sl xs (evO sl y)&&JF sl xs r
def Y4 (sl:Sl) (a:COp):AV→Bool
 | .nil=>true
 | .tup []=>true
 | .own k=>Qb sl k (Zo a)
 | .ownv k _ _=>Qb sl k (Zo a)
 | _=>false
def seenSrc (sl:Sl) (a:COp):AV→Bool
 | .own k=>Qb sl k (Zo a)
 | v=>okV v
def QM (sl:Sl) (xs:List Opd):List Nat→Bool
 | []=>true
 | k :: r=>Qb sl k xs&&QM sl xs r
def XC (sl:Sl) (a:COp):AV→AV→Bool
 | .prow _ _ _ _,.d _=>true
 | .prow _ _ _ _,v=>okV v&&QM sl (Zo a) (Zj v)
 | _,_=>true
def YB (sl:Sl) (d:Option Nat):COp→COp→Bool
 | .move _,_=>okD sl d
 | a,.store _ _ x y=>UZ sl a (Xv (evO sl x))&&XC sl a (evO sl x) (evO sl y)
 | a,.append _ _ _ flat x y=>Y4 sl a (evO sl x)&&(flat || seenSrc sl a (evO sl y))
 | a,.call _ as=>okL sl (Zo a)&&(okD sl d&&(okL sl as&&JF sl (Zo a) as))
 | _,_=>false
def ZbR (os:List CO) (sl:Sl) (p:Nat×Nat):Bool:=match os[p.1]?,os[p.2]? with
 | some a,some b=>YB sl a.dst a.op b.op
 | _,_=>false
def Yy (os:List CO) (sl:Sl):List (Nat×Nat)→Bool
 | []=>true
 | p :: r=>ZbR os sl p&&Yy os sl r
def Q8 (M:Zf):Zf:=fun f i=>i != 99&&M f i
section
variable (C:Orc) (M:Zf)
noncomputable def JG (nx:Nat):Nat→List CO→Sl→Hp→Option (Sl×Hp)
 | _,[],sl,hp=>some (sl,hp)
 | i,o :: rest,sl,hp=>bnd (ZC sl o.guard) fun b=>
   if b then bnd (Q3 (nx+64*i) o.dst sl hp (vop C M sl hp (nx+64*i) o.op)) fun r=>JG nx (i+1) rest r.1 r.2
   else JG nx (i+1) rest (Zh sl o.dst (.tup [])) hp
def U0 (c:Zb):List Nat→Hp→List Nat→List Nat→Option Zb
 | [],[],[],[]=>some c
 | _,_,_,_=>none
def Wz (e:Option Zb):Option Zb:=bnd e fun c=>U0 c c.gone c.eff.sets c.eff.dels c.eff.frz
noncomputable def XO (nx i:Nat) (tail:Bool) (o:COp) (sl:Sl) (hp:Hp):Option Zb:=
 if tail then vop C M sl hp (nx+64*i) o else Wz (vop C M sl hp (nx+64*i) o)
noncomputable def Vf (nx:Nat):Nat→Bool→List CO→Sl→Hp→Option (Sl×Hp)
 | _,_,[],sl,hp=>some (sl,hp)
 | i,t,o :: rest,sl,hp=>bnd (ZC sl o.guard) fun b=>
   if b then bnd (Q3 (nx+64*i) o.dst sl hp (XO C M nx i (CO.starts o) o.op sl hp)) fun r=>Vf nx (i+1) t rest r.1 r.2
   else Vf nx (i+1) t rest (Zh sl o.dst (.tup [])) hp
def VX {α:Type}:List (Nat×α)→List Nat
 | []=>[]
 | (k,_) :: r=>k :: VX r
def only {α:Type} (K:List Nat):List (Nat×α)→List (Nat×α)
 | []=>[]
 | (k,v) :: r=>if K.contains k then (k,v) :: only K r else only K r
def XP:Nat→List Zg→Hp
 | _,[]=>[]
 | k,o :: r=>XP (k+1) r++[(k,o)]
def Zgu:Sl→List Nat
 | []=>[]
 | (_,v) :: r=>Zj v++Zgu r
def Zhw:Option Zg→Bool
 | some _=>true
 | none=>false
def Ua (hp:Hp) (ids:List Nat) (i:Nat):Bool:=ids.contains i&&Zhw (lkp hp i)
def JH (hp:Hp) (ids:List Nat):List Nat→List Nat
 | []=>[]
 | i :: r=>if Ua hp ids i then JH hp ids r else i :: JH hp ids r
def Uv (hp:Hp) (ids:List Nat) (v:AV):AV:=ren (XI ids) (kill (JH hp ids (Zj v)) v)
def JI (hp:Hp) (ids:List Nat) (o:Zg):Zg:=Zbj (XI ids) (Qo (JH hp ids (YQ o)) o)
def ZjO:Option Zg→List Nat
 | some o=>YQ o
 | none=>[]
def Ya (hp:Hp):List Nat→List Nat
 | []=>[]
 | id :: r=>ZjO (lkp hp id)++Ya hp r
def YI (K:List Nat) (st:St):St:=
 let sl:=only K st.sl
 let ids:=Qh st.hp (QH st.hp) (Zgu sl++Ya st.hp (List.range st.m)) (List.range st.m)
 { sl:=Zb9 (Uv st.hp ids) sl,hp:=XP 0 ((W5 st.hp ids).map (JI st.hp ids)),nx:=ids.length,m:=st.m }
def Vg (f:St→Option (Ex×St)) (K:List Nat):Nat→St→Option (Ex×St)
 | 0,_=>none
 | n+1,st=>match f (YI K st) with
  | some (.normal,st')=>Vg f K n st'
  | r=>r
def andThen (r:Option (Ex×St)) (k:St→Option (Ex×St)):Option (Ex×St):=match r with
 | some (.normal,st)=>k st
 | r=>r
def ZaM (v:AV) (a b:Option (Ex×St)):Option (Ex×St):=match v with
 | .d (.bool t)=>if t then a else b
 | _=>none
def JJ (id:Nat) (r:Option (Ex×St)):Option (Ex×St):=match r with
 | some (.exit j,st)=>if j=id then some (.normal,st) else some (.exit j,st)
 | r=>r
def Zgv (ops:List CO) (ps:List (Nat×Nat)) (r:Option (Sl×Hp)):Option (Sl×Hp):=bnd r fun r=>if Yy ops r.1 ps then some r else none
def Zdx (m nx:Nat) (r:Option (Sl×Hp)):Option (Ex×St):=bnd r fun r=>some (.normal,{ sl:=r.1,hp:=r.2,nx:=nx,m:=m })
def ZeW (K:List Nat) (r:Option (Ex×St)):Option (Ex×St):=match r with
 | some q=>some (q.1,{ q.2 with sl:=only K q.2.sl })
 | none=>none
def ZkK (fl:Bool) (k:Nat) (ys:List D):Option Zg:=if fl then (if V4 D.flat ys then some (.row k ys true false) else none) else some (.tree k k ys none)
def ZbS (xs:List D) (n j:Nat) (y:D):Option (List D):=bnd xs[n]? fun x=>some (xs.set n (XF x j [y]))
def ZkL (fl:Bool) (nx n j:Nat):Option Zg→Option (Zg×Zg)
 | some (.tree s k xs none)=>bnd (Y0 xs n j) fun ys=>bnd (ZkK fl k ys) fun o=>bnd (ZbS xs n j (.sl [])) fun xs'=>some (.tree s k xs' (some (some nx,n,j)),o)
 | _=>none
def U1 (fl:Bool) (id:Nat) (i:Opd) (j:Nat) (st:St):Option St:=bnd (idx (evO st.sl i)) fun n=>if 0≤n then bnd (ZkL fl st.nx n.toNat j (lkp st.hp id)) fun q=>some { st with hp:=ins (ins st.hp id q.1) st.nx q.2,nx:=st.nx+64 } else none
def ZeX (k:Nat):Option Zg→Option (List D)
 | some (.row k' ys true false)=>if k'=k∧V4 D.flat ys then some ys else none
 | some (.tree k' n ys none)=>if k'=k∧n=k then some ys else none
 | _=>none
def Zdl (hp:Hp) (id nm:Nat):Option Zg→Option Hp
 | some (.tree s k xs (some (some nm',n,j)))=>if nm'=nm then bnd (ZeX k (lkp hp nm)) fun ys=>bnd (ZbS xs n j (.sl ys)) fun xs'=>some (ins (del hp nm) id (.tree s k xs' none)) else none
 | _=>none
def ZlR (hp:Hp):Option Hp→Hp
 | some h=>h
 | none=>hp
def ZeY (id nm:Nat) (r:Option (Ex×St)):Option (Ex×St):=match r with
 | some q=>some (q.1,{ q.2 with hp:=ZlR q.2.hp (Zdl q.2.hp id nm (lkp q.2.hp id)) })
 | none=>none
def Zhx (st:St):St := { st with hp:=Zb9 ZbH st.hp }
noncomputable def Zr (N:Nat):Zy→St→Option (Ex×St)
 | .skip,st=>some (.normal,st)
 | .region n none ops,st=>Zdx st.m (st.nx+64*n) (JG C M st.nx 0 ops st.sl st.hp)
 | .region n (some ps) ops,st=>Zdx st.m (st.nx+64*n) (Zgv ops ps (Vf C (Q8 M) st.nx 0 false ops st.sl st.hp))
 | .seq a b,st=>andThen (Zr N a st) (Zr N b)
 | .cond c a b,st=>ZaM (evO st.sl c) (Zr N a st) (Zr N b st)
 | .block id c,st=>JJ id (Zr N c st)
 | .loop c,st=>Vg (Zr N c) (VX st.sl) N st
 | .exit id,st=>some (.exit id,st)
 | .ret,st=>some (.ret,st)
 | .keep K c,st=>ZeW K (Zr N c st)
 | .stuck,_=>none
 | .link fl id i j c,st=>bnd (U1 fl id i j st) fun st1=>ZeY id st.nx (Zr N c st1)
 | .melt c,st=>Zr N c (Zhx st)
def ZeZ (st:St):ZfN→Option AV
 | .tmp t=>some (gs st.sl t)
 | .cell a g s=>Yo st.hp g s (gs st.sl a)
def X3 (m:Nat) (hp:Hp) (v:AV):AV×List Zg:=
 let ids:=Qh hp (QH hp) (Zj v++Ya hp (List.range m)) (List.range m)
 (Uv hp ids v,(W5 hp ids).map (JI hp ids))
def ZkM:AV→Bool
 | .tup _=>true
 | _=>false
def Za8:List AV→Bool
 | []=>false
 | v :: r=>ZkM v || Za8 r
def WA:List AV→AV
 | [v]=>v
 | vs=>if Za8 vs then .junk else .tup vs
def XM:Nat→List AV→Sl
 | _,[]=>[]
 | k,v :: r=>XM (k+1) r++[(k,v)]
def Ub (m:Nat) (rs:List ZfN) (r:Option (Ex×St)):Option (AV×List Zg):=match r with
 | some (.normal,st)=>bnd (ZY (ZeZ st) rs) fun vs=>some (X3 m st.hp (WA vs))
 | some (.ret,st)=>bnd (ZY (ZeZ st) rs) fun vs=>some (X3 m st.hp (WA vs))
 | _=>none
noncomputable def Ze0 (N:Nat) (fn:QK) (as:List AV) (h:List Zg):Option (AV×List Zg):=
 if as.length≤fn.nt then Ub h.length fn.res (Zr C M N fn.body { sl:=XM 0 as,hp:=XP 0 h,nx:=h.length,m:=h.length }) else none
end
inductive Fn where
 | text (f:QK)
 | prim (p:List AV→List Zg→Option (AV×List Zg))
abbrev Fns:=Nat→Option Fn
noncomputable def Zcw (C:Orc) (M:Zf) (N:Nat) (as:List AV) (h:List Zg):Option Fn→Option (AV×List Zg)
 | some (.text f)=>Ze0 C M N f as h
 | some (.prim p)=>p as h
 | none=>none
noncomputable def ZR (X:Fns) (M:Zf):Nat→Orc
 | 0,_,_,_=>none
 | n+1,f,as,h=>Zcw (ZR X M n) M n as h (X f)
open Classical in
noncomputable def lim {α:Type} (x:Nat→Option α):Option α:=if h:∃ r,∃ n,x n=some r then some h.choose else none
def ZlS {α:Type} (x:Nat→Option α):Prop:=∀ n r,x n=some r→x (n+1)=some r
theorem ZlS.le {α:Type} {x:Nat→Option α} (h:ZlS x) {n m:Nat} {r:α} (hr:x n=some r) (aa:n≤m):x m=some r:=by
 induction aa with
 | refl=>exact hr
 | step _ ih=>exact h _ _ ih
theorem Za9 {α:Type} {x:Nat→Option α} (h:ZlS x) {n:Nat} {r:α} (hr:x n=some r):lim x=some r:=by
 have he:∃ r,∃ n,x n=some r:=⟨r,n,hr⟩
 unfold lim;rw[dif_pos he];obtain⟨m,hm⟩:=he.choose_spec;have h1:=h.le hm (LX m n);have h2:=h.le hr (LQ m n);rw[h1] at h2;exact h2
theorem JK {α:Type} {x:Nat→Option α} {r:α} (hr:lim x=some r):∃ n,x n=some r:=by
 unfold lim at hr;split at hr
 ·rename_i h;obtain⟨n,hn⟩:=h.choose_spec;exact⟨n,by rw[hn];exact hr⟩
 ·cases hr
def Orc.le (C C' : Orc):Prop:=∀ f as h r,C f as h=some r→C' f as h=some r
section
variable {M:Zf} {C C' : Orc}
theorem VY {α β:Type} {x x' : Option α} {f f' : α→Option β} {r:β} (hx:∀ a,x=some a→x'=some a) (hf:∀ a,f a=some r→f' a=some r) (h:bnd x f=some r):bnd x' f'=some r:=by
 obtain⟨a,h1,h2⟩:=Za h;rw[hx a h1];exact hf a h2
theorem ZmX (h:C.le C') {m:Nat→Bool} {hp:Hp} {base f:Nat} {aa:List AV} {r:Zb}
  (hr:WT C m hp base f aa=some r):WT C' m hp base f aa=some r:=by
 unfold WT at hr ⊢;refine VY (fun _ h=>h) (fun as hr=>?_) hr;unfold UO at hr ⊢;by_cases hc:(as.flatMap Zj).all (Qh hp (QH hp) (as.flatMap Zj) []).contains∧¬(Q7 aa as).any (Qh hp (QH hp) (as.flatMap Zj) []).contains∧V9 hp (as.flatMap Ve) (Qh hp (QH hp) (as.flatMap Zj) [])=true
 ·rw[Kw hc] at hr ⊢;exact VY (fun q hq=>h _ _ _ _ hq) (fun _ h=>h) hr
 ·rw[Kn hc] at hr;cases hr
theorem Zhy (h:C.le C') {sl:Sl} {hp:Hp} {base:Nat} {o:COp} {r:Zb} (hr:vop C M sl hp base o=some r) :
  vop C' M sl hp base o=some r:=by
 cases o with
 | call f as=>
  simp only[vop] at hr ⊢;cases hg:evO sl f<;>simp only[hg,W8] at hr ⊢ <;> first | exact ZmX h hr | exact hr
 | _=>exact hr
theorem Zhz (h:C.le C') (nx:Nat):∀ (l:List CO) (i:Nat) (sl:Sl) (hp:Hp) (r:Sl×Hp),
  JG C M nx i l sl hp=some r→JG C' M nx i l sl hp=some r:=by
 intro l
 induction l with
 | nil=>intro i sl hp r hr;exact hr
 | cons o rest ih=>
  intro i sl hp r hr;simp only[JG] at hr ⊢;refine VY (fun _ h=>h) (fun b hr=>?_) hr;cases b
  ·simp only[Ka,Kh] at hr ⊢;exact ih _ _ _ _ hr
  ·simp only[Ki] at hr ⊢;refine VY (fun q hq=>?_) (fun q hq=>ih _ _ _ _ hq) hr;unfold Q3 at hq ⊢;exact VY (fun e he=>Zhy h he) (fun _ h=>h) hq
theorem ZkN (h:C.le C') {nx i:Nat} {t:Bool} {o:COp} {sl:Sl} {hp:Hp} {e:Zb} (he:XO C M nx i t o sl hp=some e) :
  XO C' M nx i t o sl hp=some e:=by
 unfold XO at he ⊢;cases t
 ·simp only[Ka,Kh,Wz] at he ⊢;exact VY (fun _ hv=>Zhy h hv) (fun _ h=>h) he
 ·simp only[Ki] at he ⊢;exact Zhy h he
theorem ZbT (h:C.le C') (nx:Nat):∀ (l:List CO) (i:Nat) (t:Bool) (sl:Sl) (hp:Hp) (r:Sl×Hp),
  Vf C M nx i t l sl hp=some r→Vf C' M nx i t l sl hp=some r:=by
 intro l
 induction l with
 | nil=>intro i t sl hp r hr;exact hr
 | cons o rest ih=>
  intro i t sl hp r hr;simp only[Vf] at hr ⊢;refine VY (fun _ h=>h) (fun b hr=>?_) hr;cases b
  ·simp only[Ka,Kh] at hr ⊢;exact ih _ _ _ _ _ hr
  ·simp only[Ki] at hr ⊢;refine VY (fun q hq=>?_) (fun q hq=>ih _ _ _ _ _ hq) hr;unfold Q3 at hq ⊢;exact VY (fun e he=>ZkN h he) (fun _ h=>h) hq
theorem ZbU {f g:St→Option (Ex×St)} (h:∀ st r,f st=some r→g st=some r) (K:List Nat) :
  ∀ (n m:Nat) (st:St) (r:Ex×St),n≤m→Vg f K n st=some r→Vg g K m st=some r:=by
 intro n
 induction n with
 | zero=>intro m st r _ hr;simp[Vg] at hr
 | succ n ih=>
  intro m st r hm hr;cases m with
  | zero=>omega
  | succ m=>
   simp only[Vg] at hr ⊢;cases hf:f (YI K st) with
   | none=>simp[hf] at hr
   | some q=>
    rw[hf] at hr;rw[h _ _ hf];obtain⟨e,aa⟩:=q;cases e with
    | normal=>exact ih m aa r (by omega) hr
    | exit id=>exact hr
    | ret=>exact hr
theorem ZdN (h:C.le C') {N N' : Nat} (hN:N≤N'):∀ (c:Zy) (st:St) (r:Ex×St),
  Zr C M N c st=some r→Zr C' M N' c st=some r:=by
 intro c
 induction c with
 | skip=>intro st r hr;simpa [Zr] using hr
 | region n draw ops=>
  intro st r hr;cases draw
  ·simp only[Zr,Zdx] at hr ⊢;exact VY (fun q hq=>Zhz h _ _ _ _ _ _ hq) (fun _ h=>h) hr
  ·simp only[Zr,Zdx,Zgv] at hr ⊢;exact VY (fun q hq=>VY (fun q hq=>ZbT h _ _ _ _ _ _ _ hq) (fun _ h=>h) hq) (fun _ h=>h) hr
 | seq a b iha ihb=>
  intro st r hr;simp only[Zr] at hr ⊢;cases ha:Zr C M N a st with
  | none=>simp[ha,andThen] at hr
  | some q=>
   rw[ha] at hr;rw[iha _ _ ha];obtain⟨e,aa⟩:=q;cases e with
   | normal=>exact ihb _ _ hr
   | exit id=>exact hr
   | ret=>exact hr
 | cond c a b iha ihb=>
  intro st r hr;simp only[Zr,ZaM] at hr ⊢;split at hr
  ·rename_i t ht;cases t
   ·simp only[Ka,Kh] at hr ⊢;exact ihb _ _ hr
   ·simp only[Ki] at hr ⊢;exact iha _ _ hr
  ·cases hr
 | block id c ih=>
  intro st r hr;simp only[Zr] at hr ⊢;cases hc:Zr C M N c st with
  | none=>simp[hc,JJ] at hr
  | some q=>rw[hc] at hr;rw[ih _ _ hc];exact hr
 | loop c ih=>
  intro st r hr;simp only[Zr] at hr ⊢;exact ZbU ih _ _ _ _ _ hN hr
 | exit id=>intro st r hr;simpa [Zr] using hr
 | ret=>intro st r hr;simpa [Zr] using hr
 | keep K c ih=>
  intro st r hr;simp only[Zr] at hr ⊢;cases hc:Zr C M N c st with
  | none=>simp[hc,ZeW] at hr
  | some q=>rw[hc] at hr;rw[ih _ _ hc];exact hr
 | stuck=>intro st r hr;simp[Zr] at hr
 | link fl id i j c ih=>
  intro st r hr;simp only[Zr] at hr ⊢;obtain⟨aa,h1,h2⟩:=Za hr;rw[h1,Zc];cases hc:Zr C M N c aa with
  | none=>simp[hc,ZeY] at h2
  | some q=>rw[hc] at h2;rw[ih _ _ hc];exact h2
 | melt c ih=>
  intro st r hr;simp only[Zr] at hr ⊢;exact ih _ r hr
theorem ZmY (h:C.le C') {N N' : Nat} (hN:N≤N') {f:QK} {as:List AV} {hh:List Zg} {r:AV×List Zg}
  (hr:Ze0 C M N f as hh=some r):Ze0 C' M N' f as hh=some r:=by
 unfold Ze0 at hr ⊢;by_cases hl:as.length≤f.nt
 ·rw[Kw hl] at hr ⊢;cases hv:Zr C M N f.body { sl:=XM 0 as,hp:=XP 0 hh,nx:=hh.length,m:=hh.length } with
  | none=>simp[hv,Ub] at hr
  | some q=>rw[hv] at hr;rw[ZdN h hN _ _ _ hv];exact hr
 ·rw[Kn hl] at hr;cases hr
end
section
variable (X:Fns) (M:Zf)
theorem Zcx:∀ n,(ZR X M n).le (ZR X M (n+1)):=by
 intro n
 induction n with
 | zero=>intro f as h r hr;simp[ZR] at hr
 | succ n ih=>
  intro f as h r hr;rw[ZR] at hr ⊢;cases hf:X f with
  | none=>rw[hf] at hr;cases hr
  | some g=>
   rw[hf] at hr;cases g with
   | text g=>exact ZmY ih (Nat.le_succ n) hr
   | prim p=>exact hr
noncomputable def Zu (f:Nat) (as:List AV) (h:List Zg):Option (AV×List Zg):=lim fun n=>ZR X M n f as h
noncomputable def Z5 (c:Zy) (st:St):Option (Ex×St):=lim fun n=>Zr (ZR X M n) M n c st
theorem WW (f:Nat) (as:List AV) (h:List Zg):ZlS fun n=>ZR X M n f as h:=fun n r hr=>Zcx X M n f as h r hr
theorem U2 (n:Nat):(ZR X M n).le (Zu X M):=fun f as h _ hr=>Za9 (WW X M f as h) hr
theorem Zba (c:Zy) (st:St):ZlS fun n=>Zr (ZR X M n) M n c st:=fun n r hr=>ZdN (Zcx X M n) (Nat.le_succ n) c st r hr
theorem WB {n m:Nat} (h:n≤m):(ZR X M n).le (ZR X M m):=fun f as hh _ hr=>(WW X M f as hh).le hr h
theorem ZiM {m:Nat→Bool} {hp:Hp} {base f:Nat} {aa:List AV} {r:Zb}
  (hr:WT (Zu X M) m hp base f aa=some r):∃ n,WT (ZR X M n) m hp base f aa=some r:=by
 unfold WT at hr ⊢;obtain⟨as,ab,hr⟩:=Za hr;simp only[ab,Zc];unfold UO at hr ⊢;by_cases hc:(as.flatMap Zj).all (Qh hp (QH hp) (as.flatMap Zj) []).contains∧¬(Q7 aa as).any (Qh hp (QH hp) (as.flatMap Zj) []).contains∧V9 hp (as.flatMap Ve) (Qh hp (QH hp) (as.flatMap Zj) [])=true
 ·rw[Kw hc] at hr;obtain⟨q,hq,hr⟩:=Za hr;obtain⟨n,hn⟩:=JK hq;refine⟨n,?_⟩;rw[Kw hc,hn];exact hr
 ·rw[Kn hc] at hr;cases hr
theorem Zcy {M' : Zf} {sl:Sl} {hp:Hp} {base:Nat} {o:COp} {r:Zb} (hr:vop (Zu X M) M' sl hp base o=some r) :
  ∃ n,vop (ZR X M n) M' sl hp base o=some r:=by
 cases o with
 | call f as=>
  simp only[vop] at hr ⊢;cases hg:evO sl f<;>simp only[hg,W8] at hr ⊢ <;> first | exact ZiM X M hr | exact⟨0,hr⟩
 | _=>exact⟨0,hr⟩
theorem ZjP (nx:Nat):∀ (l:List CO) (i:Nat) (sl:Sl) (hp:Hp) (r:Sl×Hp),
  JG (Zu X M) M nx i l sl hp=some r→∃ n,JG (ZR X M n) M nx i l sl hp=some r:=by
 intro l
 induction l with
 | nil=>intro i sl hp r hr;exact⟨0,hr⟩
 | cons o rest ih=>
  intro i sl hp r hr;simp only[JG] at hr ⊢;obtain⟨b,hb,hr⟩:=Za hr;simp only[hb,Zc];cases b
  ·simp only[Ka,Kh] at hr ⊢;exact ih _ _ _ _ hr
  ·simp only[Ki] at hr ⊢;obtain⟨q,hq,hr⟩:=Za hr;unfold Q3 at hq;obtain⟨e,he,hq⟩:=Za hq;obtain⟨n1,h1⟩:=Zcy X M he;obtain⟨n2,h2⟩:=ih _ _ _ _ hr;refine⟨max n1 n2,?_⟩;unfold Q3;rw[Zhy (WB X M (LX n1 n2)) h1,Zc,hq,Zc];exact Zhz (WB X M (LQ n1 n2)) _ _ _ _ _ _ h2
theorem ZjQ {M' : Zf} {nx i:Nat} {t:Bool} {o:COp} {sl:Sl} {hp:Hp} {e:Zb} (he:XO (Zu X M) M' nx i t o sl hp=some e) :
  ∃ n,XO (ZR X M n) M' nx i t o sl hp=some e:=by
 unfold XO at he ⊢;cases t
 ·simp only[Ka,Kh,Wz] at he ⊢;obtain⟨e',aa,h2⟩:=Za he;obtain⟨n,hn⟩:=Zcy X M aa;exact⟨n,by rw[hn];exact h2⟩
 ·simp only[Ki] at he ⊢;exact Zcy X M he
theorem ZiN {M' : Zf} (nx:Nat):∀ (l:List CO) (i:Nat) (t:Bool) (sl:Sl) (hp:Hp) (r:Sl×Hp),
  Vf (Zu X M) M' nx i t l sl hp=some r→∃ n,Vf (ZR X M n) M' nx i t l sl hp=some r:=by
 intro l
 induction l with
 | nil=>intro i t sl hp r hr;exact⟨0,hr⟩
 | cons o rest ih=>
  intro i t sl hp r hr;simp only[Vf] at hr ⊢;obtain⟨b,hb,hr⟩:=Za hr;simp only[hb,Zc];cases b
  ·simp only[Ka,Kh] at hr ⊢;exact ih _ _ _ _ _ hr
  ·simp only[Ki] at hr ⊢;obtain⟨q,hq,hr⟩:=Za hr;unfold Q3 at hq;obtain⟨e,he,hq⟩:=Za hq;obtain⟨n1,h1⟩:=ZjQ X M he;obtain⟨n2,h2⟩:=ih _ _ _ _ _ hr;refine⟨max n1 n2,?_⟩;unfold Q3;rw[ZkN (WB X M (LX n1 n2)) h1,Zc,hq,Zc];exact ZbT (WB X M (LQ n1 n2)) _ _ _ _ _ _ _ h2
theorem Qq {c:Zy} {st:St} {n:Nat} {r:Ex×St} (h:Zr (ZR X M n) M n c st=some r):Z5 X M c st=some r:=
 Za9 (Zba X M c st) h
theorem Xf {α:Type} {x:Nat→Option α} (h:∀ n,x n=none):lim x=none:=by
 cases hx:lim x with
 | none=>rfl
 | some r=>obtain⟨n,hn⟩:=JK hx;rw[h n] at hn;cases hn
theorem ZjR (st:St):Z5 X M .skip st=some (.normal,st):=Qq X M (n:=0) (by simp[Zr])
theorem ZjS (id:Nat) (st:St):Z5 X M (.exit id) st=some (.exit id,st):=Qq X M (n:=0) (by simp[Zr])
theorem ZlT (st:St):Z5 X M .ret st=some (.ret,st):=Qq X M (n:=0) (by simp[Zr])
theorem ZhA (n:Nat) (ops:List CO) (st:St) :
  Z5 X M (.region n none ops) st=Zdx st.m (st.nx+64*n) (JG (Zu X M) M st.nx 0 ops st.sl st.hp):=by
 cases h:JG (Zu X M) M st.nx 0 ops st.sl st.hp with
 | some r=>
  obtain⟨k,hk⟩:=ZjP X M _ _ _ _ _ _ h;exact Qq X M (n:=k) (by simp only[Zr,hk,Zdx,Zc])
 | none=>
  refine Xf fun k=>?_;simp only[Zr];cases hn:JG (ZR X M k) M st.nx 0 ops st.sl st.hp with
  | none=>rfl
  | some r=>rw[Zhz (U2 X M k) _ _ _ _ _ _ hn] at h;cases h
theorem ZjT (n:Nat) (ps:List (Nat×Nat)) (ops:List CO) (st:St) :
  Z5 X M (.region n (some ps) ops) st=Zdx st.m (st.nx+64*n) (Zgv ops ps (Vf (Zu X M) (Q8 M) st.nx 0 false ops st.sl st.hp)):=by
 cases h:Vf (Zu X M) (Q8 M) st.nx 0 false ops st.sl st.hp with
 | some r=>
  obtain⟨k,hk⟩:=ZiN X M _ _ _ _ _ _ _ h;cases hs:Zgv ops ps (some r) with
  | none=>
   refine Xf fun k'=>?_;simp only[Zr];cases hn:Vf (ZR X M k') (Q8 M) st.nx 0 false ops st.sl st.hp with
   | none=>rfl
   | some r' =>
    have:=ZbT (U2 X M k') _ _ _ _ _ _ _ hn;rw[h] at this;cases this;rw[hs];rfl
  | some r'=>exact Qq X M (n:=k) (by simp only[Zr,hk,hs];rfl)
 | none=>
  refine Xf fun k=>?_;simp only[Zr];cases hn:Vf (ZR X M k) (Q8 M) st.nx 0 false ops st.sl st.hp with
  | none=>rfl
  | some r=>rw[ZbT (U2 X M k) _ _ _ _ _ _ _ hn] at h;cases h
theorem Y5 {c:Zy} {st:St} {r:Ex×St} (h:Z5 X M c st=some r):∃ n,∀ m,n≤m→Zr (ZR X M m) M m c st=some r:=by
 obtain⟨n,hn⟩:=JK h;exact⟨n,fun m hm=>(Zba X M c st).le hn hm⟩
theorem ZlU (a b:Zy) (st:St):Z5 X M (.seq a b) st=andThen (Z5 X M a st) (Z5 X M b):=by
 cases ha:Z5 X M a st with
 | none=>
  refine Xf fun n=>?_;cases h:Zr (ZR X M n) M n a st with
  | none=>simp[Zr,h,andThen]
  | some q=>rw[Qq X M h] at ha;cases ha
 | some q=>
  obtain⟨e,aa⟩:=q;obtain⟨n,hn⟩:=Y5 X M ha;cases e with
  | normal=>
   simp only[andThen];cases hb:Z5 X M b aa with
   | none=>
    refine Xf fun k=>?_;cases h:Zr (ZR X M k) M k (.seq a b) st with
    | none=>rfl
    | some q=>
     have h1:=(Zba X M (.seq a b) st).le h (LX k n);simp only[Zr,hn _ (LQ k n),andThen] at h1;rw[Qq X M h1] at hb;cases hb
   | some q=>
    obtain⟨m,hm⟩:=Y5 X M hb;refine Qq X M (n:=max n m) ?_;simp only[Zr,hn _ (LX n m),andThen,hm _ (LQ n m)]
  | exit id=>exact Qq X M (n:=n) (by simp only[Zr,hn _ (Kg n),andThen])
  | ret=>exact Qq X M (n:=n) (by simp only[Zr,hn _ (Kg n),andThen])
theorem ZjU (c:Opd) (a b:Zy) (st:St) :
  Z5 X M (.cond c a b) st=ZaM (evO st.sl c) (Z5 X M a st) (Z5 X M b st):=by
 unfold ZaM;split
 ·rename_i t h;cases t
  ·simp only[Ka,Kh,Z5,Zr,h,ZaM]
  ·simp only[Ki,Z5,Zr,h,ZaM]
 ·rename_i h;refine Xf fun n=>?_;simp only[Zr,ZaM]
theorem ZiO (id:Nat) (c:Zy) (st:St):Z5 X M (.block id c) st=JJ id (Z5 X M c st):=by
 cases hc:Z5 X M c st with
 | none=>
  refine Xf fun n=>?_;cases h:Zr (ZR X M n) M n c st with
  | none=>simp[Zr,h,JJ]
  | some q=>rw[Qq X M h] at hc;cases hc
 | some q=>
  obtain⟨n,hn⟩:=Y5 X M hc;cases hb:JJ id (some q) with
  | none=>
   obtain⟨e,aa⟩:=q;cases e<;>simp[JJ] at hb
   split at hb<;>cases hb
  | some r=>exact Qq X M (n:=n) (by simp only[Zr,hn _ (Kg n),hb])
theorem ZjV (K:List Nat) (c:Zy) (st:St):Z5 X M (.keep K c) st=ZeW K (Z5 X M c st):=by
 cases hc:Z5 X M c st with
 | none=>
  refine Xf fun n=>?_;cases h:Zr (ZR X M n) M n c st with
  | none=>simp[Zr,h,ZeW]
  | some q=>rw[Qq X M h] at hc;cases hc
 | some q=>
  obtain⟨n,hn⟩:=Y5 X M hc;exact Qq X M (n:=n) (by simp only[Zr,hn _ (Kg n),ZeW])
theorem ZjW (fl:Bool) (id:Nat) (i:Opd) (j:Nat) (c:Zy) (st:St):Z5 X M (.link fl id i j c) st=bnd (U1 fl id i j st) fun st1=>ZeY id st.nx (Z5 X M c st1):=by
 cases hl:U1 fl id i j st with
 | none=>
  refine Xf fun n=>?_;simp only[Zr,hl];rfl
 | some st' =>
  rw[Zc];cases hc:Z5 X M c st' with
  | none=>
   refine Xf fun n=>?_;cases h:Zr (ZR X M n) M n c st' with
   | none=>simp only[Zr,hl,Zc,h];rfl
   | some q=>rw[Qq X M h] at hc;cases hc
  | some q=>
   obtain⟨n,hn⟩:=Y5 X M hc;exact Qq X M (n:=n) (by simp only[Zr,hl,Zc,hn _ (Kg n)];rfl)
theorem ZjX (c:Zy) (st:St):Z5 X M (.melt c) st=Z5 X M c (Zhx st):=by
 cases hc:Z5 X M c (Zhx st) with
 | none=>
  refine Xf fun n=>?_;cases h:Zr (ZR X M n) M n c (Zhx st) with
  | none=>simp only[Zr,h]
  | some q=>rw[Qq X M h] at hc;cases hc
 | some q=>
  obtain⟨n,hn⟩:=Y5 X M hc;exact Qq X M (n:=n) (by simp only[Zr,hn _ (Kg n)])
noncomputable def JL (c:Zy) (K:List Nat) (st:St):Option (Ex×St):=lim fun n=>Vg (Zr (ZR X M n) M n c) K n st
theorem WX (c:Zy) (K:List Nat) (st:St):ZlS fun n=>Vg (Zr (ZR X M n) M n c) K n st:=fun n r hr=>
 ZbU (fun _ _ h=>ZdN (Zcx X M n) (Nat.le_succ n) c _ _ h) K n (n+1) st r (Nat.le_succ n) hr
theorem ZjY (c:Zy) (st:St):Z5 X M (.loop c) st=JL X M c (VX st.sl) st:=by
 simp only[Z5,JL,Zr]
theorem ZiP {c:Zy} {K:List Nat} {st aa : St} (h:Z5 X M c (YI K st)=some (.normal,aa)) :
  JL X M c K st=JL X M c K aa:=by
 obtain⟨n,hn⟩:=Y5 X M h;cases hl:JL X M c K aa with
 | none=>
  refine Xf fun k=>?_;cases hk:Vg (Zr (ZR X M k) M k c) K k st with
  | none=>rfl
  | some q=>
   have h1:=(WX X M c K st).le hk (show k≤max k n+1 by omega);simp only[Vg] at h1;rw[hn (max k n+1) (by omega)] at h1;simp only[] at h1;have h2:=ZbU (fun _ _ h=>h) K (max k n) (max k n+1) aa q (Nat.le_succ _) h1;rw[show JL X M c K aa=some q from Za9 (WX X M c K aa) h2] at hl;cases hl
 | some q=>
  obtain⟨m,hm⟩:=JK hl;refine Za9 (WX X M c K st) (n:=max n m+1) ?_;simp only[Vg,hn (max n m+1) (by omega)];exact ZbU (fun _ _ h=>ZdN (WB X M (show m≤max n m+1 by omega)) (show m≤max n m+1 by omega) c _ _ h) K m (max n m) aa q (by omega) hm
theorem Ze1 {c:Zy} {K:List Nat} {st aa : St} {e:Ex} (he:e≠.normal) (h:Z5 X M c (YI K st)=some (e,aa)) :
  JL X M c K st=some (e,aa):=by
 obtain⟨n,hn⟩:=Y5 X M h;refine Za9 (WX X M c K st) (n:=n+1) ?_;simp only[Vg,hn (n+1) (by omega)];cases e with
 | normal=>exact absurd rfl he
 | exit id=>rfl
 | ret=>rfl
theorem ZmZ {f:Nat} {as:List AV} {h:List Zg} {fn:QK} {r:AV×List Zg} (hx:X f=some (.text fn))
  (hl:as.length≤fn.nt) (hr:Ub h.length fn.res (Z5 X M fn.body { sl:=XM 0 as,hp:=XP 0 h,nx:=h.length,m:=h.length })=some r) :
  Zu X M f as h=some r:=by
 cases hv:Z5 X M fn.body { sl:=XM 0 as,hp:=XP 0 h,nx:=h.length,m:=h.length } with
 | none=>rw[hv] at hr;simp[Ub] at hr
 | some q=>
  rw[hv] at hr;obtain⟨n,hn⟩:=Y5 X M hv;refine Za9 (WW X M f as h) (n:=n+1) ?_;simp only[ZR,hx,Zcw,Ze0,hl,Ki,hn n (Kg n)];exact hr
theorem ZjZ {f:Nat} {as:List AV} {h:List Zg} {p:List AV→List Zg→Option (AV×List Zg)} {r:AV×List Zg} (hx:X f=some (.prim p)) (hp:p as h=some r) :
  Zu X M f as h=some r:=
 Za9 (WW X M f as h) (n:=1) (by simp only[ZR,hx,Zcw,hp])
end
section
variable (P:Program)
def Yh (nt:Nat):Code→Option Zy
 | .skip=>some .skip
 | .region _ ops draw=>bnd (ZY (Zdi P nt ops.toList) ops.toList) fun os=>if draw then (if ZeV ops os then some (.region ops.toList.length (some (Ww ops os)) os) else some .stuck) else some (.region ops.toList.length none os)
 | .seq a b=>bnd (Yh nt a) fun a=>bnd (Yh nt b) fun b=>some (.seq a b)
 | .cond c a b=>bnd (ZA c) fun c=>bnd (Yh nt a) fun a=>bnd (Yh nt b) fun b=>some (.cond c a b)
 | .block id c=>bnd (Yh nt c) fun c=>some (.block id c)
 | .loop c=>bnd (Yh nt c) fun c=>some (.loop c)
 | .exit id=>some (.exit id)
 | .ret=>some .ret
 | _=>some .stuck
def U3:COp→COp
 | .buildT s _ xs=>.buildSl s xs
 | .asgT s _ x=>.assign (some s) x
 | .appT s b flat x y=>.append s b false flat x y
 | .makeT s b _ z l c=>.make s b z l c
 | c=>c
def Zcz:List CO→List CO
 | []=>[]
 | o :: r => { o with op:=U3 o.op } :: Zcz r
def Zj0:Option (List (Nat×Nat))→List CO→List CO
 | none,ops=>Zcz ops
 | some _,ops=>ops
def Q4:Zy→Zy
 | .keep _ c=>Q4 c
 | .seq a b=>.seq (Q4 a) (Q4 b)
 | .cond c a b=>.cond c (Q4 a) (Q4 b)
 | .block id c=>.block id (Q4 c)
 | .loop c=>.loop (Q4 c)
 | .region n d ops=>.region n d (Zj0 d ops)
 | .link _ _ _ _ c=>Q4 c
 | .melt c=>Q4 c
 | .skip=>.skip
 | .exit id=>.exit id
 | .ret=>.ret
 | .stuck=>.stuck
def ZcA (cf:QK):QK := { nt:=cf.nt,res:=cf.res,body:=Q4 cf.body }
def cRes:ResultVar→Option ZfN
 | .tmp t=>some (.tmp t)
 | .cell a t=>bnd (Ut P t) fun g=>some (.cell a g (P.cellsOf t))
def cFun (fn:Func):Option QK:=bnd fn.body fun c=>bnd (Yh P fn.ntmps c) fun b=>bnd (ZY (cRes P) fn.results.toList) fun rs=>some { nt:=fn.ntmps,res:=rs,body:=b }
end
end Go.Abs
