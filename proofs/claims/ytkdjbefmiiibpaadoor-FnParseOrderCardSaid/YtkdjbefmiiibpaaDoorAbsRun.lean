/- The abstract semantics: regions, codes, bodies, calls. Own text. -/
import Derived.Test.YtkdjbefmiiibpaaDoorAbsOps
set_option linter.unusedVariables false
set_option linter.unusedSimpArgs false
namespace Go.Abs
open Go

inductive Ex where
  | normal
  | exit (id : Nat)
  | ret

def okAdds (lo hi : Nat) : Hp → Bool
  | [] => true
  | (k, _) :: r => decide (lo ≤ k) && decide (k < hi) && okAdds (k + 1) hi r

def strike (gone : List Nat) (sl : Sl) : Sl := match gone with
  | [] => sl
  | _ => mapV (kill gone) sl

def strikeO (gone : List Nat) (hp : Hp) : Hp := match gone with
  | [] => hp
  | _ => mapV (okill gone) hp

def putD (sl : Sl) (dst : Option Nat) (v : AV) : Sl := match dst with
  | some t => ins sl t v
  | none => sl

def CallEff.on (e : CallEff) (dst : Option Nat) (sl : Sl) (hp : Hp) : Sl × Hp :=
  (putD (strike e.gone sl) dst e.eff.val, e.eff.on (strikeO e.gone hp))

def stepE (base : Nat) (dst : Option Nat) (sl : Sl) (hp : Hp) (e : Option CallEff) : Option (Sl × Hp) :=
  bnd e fun e => if okAdds base (base + 64) e.eff.adds then some (e.on dst sl hp) else none

def guardV (want : Bool) : AV → Option Bool
  | .d (.bool b) => some (b == want)
  | .tup [] => some false
  | _ => none

/-- Is the operation to be carried out? -/
def wantV (sl : Sl) : Option (Nat × Bool) → Option Bool
  | none => some true
  | some q => guardV q.2 (gs sl q.1)

inductive CCode where
  | skip
  | region (n : Nat) (draw : Option (List (Nat × Nat))) (ops : List CO)
  | seq (a b : CCode)
  | cond (c : Opd) (a b : CCode)
  | block (id : Nat) (c : CCode)
  | loop (c : CCode)
  | exit (id : Nat)
  | ret
  | keep (K : List Nat) (c : CCode)
  | stuck
  | link (id : Nat) (i : Opd) (j : Nat) (c : CCode)
  | melt (c : CCode)

inductive CRes where
  | tmp (t : Nat)
  | cell (a : Nat) (g : Bool) (s : Nat)

structure CFun where
  nt : Nat
  res : List CRes
  body : CCode

/-! ## Regions that draw: what is asked of them -/

/-- An operation's operands. -/
def optL (x : Option Opd) : List Opd := match x with
  | some y => [y]
  | none => []

def opds : COp → List Opd
  | .move x => [x]
  | .assign _ x => [x]
  | .pick c a b => [c, a, b]
  | .alloc _ _ => []
  | .box x => [x]
  | .build _ ps => ps.map fun q => q.2.2
  | .buildSl _ xs => xs
  | .load _ _ a => [a]
  | .store _ _ a x => [a, x]
  | .nilCheck x => [x]
  | .bin _ _ x y => [x, y]
  | .un _ x => [x]
  | .eqA _ _ x y => [x, y]
  | .convI _ x => [x]
  | .convS x => [x]
  | .fn _ cs => cs
  | .make _ _ _ l c => [l, c]
  | .slice _ x lo hi => x :: (optL lo ++ optL hi)
  | .sliceS x lo hi => x :: (optL lo ++ optL hi)
  | .slice0 x hi mx => [x, hi, mx]
  | .shift _ x => [x]
  | .part _ _ _ x => [x]
  | .iaS _ x i => [x, i]
  | .iaA _ _ x i => [x, i]
  | .ixS x i => [x, i]
  | .ixA _ _ _ x i => [x, i]
  | .nth _ x => [x]
  | .len x => [x]
  | .lenS x => [x]
  | .append _ _ _ _ x y => [x, y]
  | .min x y => [x, y]
  | .max x y => [x, y]
  | .call f as => f :: as
  | .slice3 _ x lo hi mx => [x, lo, hi, mx]
  | .clear _ _ x => [x]
  | .stuck => []
  | .buildDp _ _ xs => xs
  | .appDp _ _ _ x y => [x, y]
  | .asgDp _ _ x => [x]

def isStore : COp → Bool
  | .store _ _ _ _ => true
  | _ => false

def isApp : COp → Bool
  | .append _ _ _ _ _ _ => true
  | _ => false

/-- A store, or an append. -/
def isPut (c : COp) : Bool := isStore c || isApp c

/-- It need not be quiet. -/
def CO.starts (o : CO) : Bool := isStore o.op || o.tl

def startAt (os : List CO) (i : Nat) : Bool := match os[i]? with
  | some o => CO.starts o
  | none => false

def slotOf : Opd → List Nat
  | .t n => [n]
  | _ => []

def guardSlots : Option (Nat × Bool) → List Nat
  | some q => [q.1]
  | none => []

/-- The slots that an operation looks at. -/
def looks (o : CO) : List Nat := (opds o.op).flatMap slotOf ++ guardSlots o.guard

def apartD : Option Nat → List Nat → Bool
  | some d, l => !l.contains d
  | none, _ => true

def apartO : Option Nat → Option Nat → Bool
  | some d, some e => d != e
  | _, _ => true

def apartCO (a b : CO) : Bool := apartD a.dst (looks b) && apartO a.dst b.dst && apartD b.dst (looks a)

/-- A constant that names nothing. -/
def constOk : Opd → Bool
  | .v a => (refs a).isEmpty && !isClo a
  | _ => true


def apartAt (os : List CO) (j i : Nat) : Bool := match os[j]?, os[i]? with
  | some a, some b => apartCO a b
  | _, _ => false

/-- Operations that look at no object. -/
def heapFree : COp → Bool
  | .load _ _ _ => false
  | .store _ _ _ _ => false
  | .slice _ _ _ _ => false
  | .slice0 _ _ _ => false
  | .iaS _ _ _ => false
  | .len _ => false
  | .append _ _ _ _ _ _ => false
  | .buildSl _ _ => false
  | .buildDp _ _ _ => false
  | .appDp _ _ _ _ _ => false
  | .asgDp _ _ _ => false
  | .call _ _ => false
  | .slice3 _ _ _ _ _ => false
  | .clear _ _ _ => false
  | _ => true

/-- Operations that look at the objects that their operands name, and at no others. -/
def readKind : COp → Bool
  | .load _ _ _ => true
  | .slice _ _ _ _ => true
  | .slice0 _ _ _ => true
  | .iaS _ _ _ => true
  | .len _ => true
  | _ => false

/-- Operations that make objects at most. -/
def calm : COp → Bool
  | .clear _ _ _ => false
  | .store _ _ _ _ => false
  | .append _ _ _ _ _ _ => false
  | .buildSl _ _ => false
  | .buildDp _ _ _ => false
  | .appDp _ _ _ _ _ => false
  | .asgDp _ _ _ => false
  | .call _ _ => false
  | _ => true

def dstAt (os : List CO) (k : Nat) : Option Nat := match os[k]? with
  | some o => o.dst
  | none => none

def looksAt (os : List CO) (k : Nat) : List Nat := match os[k]? with
  | some o => looks o
  | none => []

/-- The slots that an operation looks at are written by none from it on. -/
def steady (os : List CO) (k : Nat) : Bool := (List.range os.length).all fun q => decide (q < k) || apartD (dstAt os q) (looksAt os k)

def isMove : COp → Bool
  | .move _ => true
  | _ => false
/-- Operations that strike no names. -/
def noGone : COp → Bool
  | .append _ _ _ _ _ _ => true
  | .buildSl _ _ => true
  | _ => false

/-- Is it a call of a function that stands in the text? -/
def isCallF : COp → Bool
  | .call (.f _) _ => true
  | _ => false

def argsOf : COp → List Opd
  | .call _ as => as
  | _ => []

/-- Operations that make no variables. -/
def noVars : COp → Bool
  | .alloc _ _ => false
  | .box _ => false
  | .assign _ _ => false
  | .make _ _ _ _ _ => false
  | .fn _ _ => false
  | _ => true

def isBuildSl : COp → Bool
  | .buildSl _ _ => true
  | _ => false

/-- A cell that names nothing. -/
def constC : AV → Bool
  | .d _ => true
  | .nil => true
  | .nilp => true
  | .nili => true
  | _ => false

def allConst : List AV → Bool
  | [] => true
  | c :: r => constC c && allConst r

def isAlloc : COp → Bool
  | .alloc _ cs => allConst cs
  | _ => false

/-- Operations that may be done behind a call, where they stand ahead of it. -/
def aheadK (c : COp) : Bool := readKind c || isBuildSl c || (heapFree c && noVars c) || isAlloc c

/-- Operations that may be done ahead of a call, where they stand behind it. -/
def behindK : COp → Bool
  | .alloc _ cs => allConst cs
  | .buildSl _ _ => true
  | .load _ _ _ => true
  | .nilCheck _ => true
  | .bin _ _ _ _ => true
  | .un _ _ => true
  | .convI _ _ => true
  | .shift _ _ => true
  | .iaS _ _ _ => true
  | .slice _ _ _ _ => true
  | .len _ => true
  | .sliceS _ _ _ => true
  | .lenS _ => true
  | _ => false

/-- No other operation writes the slot. -/
def isSomeN : Option Nat → Bool
  | some _ => true
  | none => false

def lone (os : List CO) (k : Nat) : Bool := isSomeN (dstAt os k) && (List.range os.length).all fun q => q == k || apartO (dstAt os q) (dstAt os k)

def stillAt (os : List CO) (j i : Nat) : Bool := steady os j && steady os i

/-- May the first, which is quiet, be done behind the second, which stands behind it? -/
def looseA (os : List CO) (j i : Nat) (a b : COp) : Bool :=
  calm b || (isPut b && (heapFree a || (!isMove a && readKind a && stillAt os j i))) || (isMove a && (noGone b || lone os j)) || (!isMove a && isCallF b && aheadK a && stillAt os j i && lone os j)

/-- May the second, which is quiet, be done ahead of the first, which stands ahead of it? -/
def looseB (os : List CO) (j i : Nat) (a b : COp) : Bool := (isMove b && lone os i) || (!isMove b && isCallF a && behindK b && stillAt os j i && lone os i)

def looseAt (os : List CO) (j i : Nat) : Bool := match os[j]?, os[i]? with
  | some a, some b => if startAt os j then !startAt os i && looseB os j i a.op b.op else !startAt os i || looseA os j i a.op b.op
  | _, _ => false

/-- Pairs of which it must be seen that the objects are apart: the quiet operation, the other. -/
def mustSee (os : List CO) (j i : Nat) : Option (Nat × Nat) := match os[j]?, os[i]? with
  | some a, some b => if startAt os j then (if isMove b.op || isCallF a.op then some (i, j) else none) else
      if startAt os i && (if isPut b.op then !(heapFree a.op) else if isMove a.op then !(noGone b.op) else isCallF b.op) then some (j, i) else none
  | _, _ => none

def optP : Option (Nat × Nat) → List (Nat × Nat)
  | some p => [p]
  | none => []

def loosePairs (ops : Array Oper) (os : List CO) : List (Nat × Nat) :=
  (List.range ops.size).flatMap fun i => (List.range i).flatMap fun j => if tied ops 6 i j then [] else optP (mustSee os j i)

/-- Edges point back; operations that are not tied by an edge are apart; such as are not tied may be done in any order; constants name nothing. -/
def drawOk (ops : Array Oper) (os : List CO) : Bool :=
  (List.range ops.size).all (fun i => (directs ops i).all fun e => decide (e < i)) &&
  (List.range ops.size).all (fun i => (List.range i).all fun j => (directs ops i).contains j || apartAt os j i) &&
  (List.range ops.size).all (fun i => (List.range i).all fun j => tied ops 6 i j || looseAt os j i) &&
  os.all (fun o => (opds o.op).all constOk)

/-- A value that does not name an object. -/
def fineV (id : Nat) : AV → Bool
  | .d _ => true
  | .pim _ => true
  | .nil => true
  | .ptr k _ => k != id
  | .prow k _ _ _ => k != id
  | .own k => k != id
  | .ownv k _ _ => k != id
  | .nilp => true
  | .nili => true
  | .tup [] => true
  | _ => false

/-- A cell of which nothing has been struck. -/
def okC : AV → Bool
  | .d _ => true
  | .pim _ => true
  | .nil => true
  | .ptr _ _ => true
  | .prow _ _ _ _ => true
  | .own _ => true
  | .ownv _ _ _ => true
  | .nilp => true
  | .nili => true
  | _ => false

def allC : List AV → Bool
  | [] => true
  | v :: r => okC v && allC r

/-- A value of which nothing has been struck. -/
def okV : AV → Bool
  | .agg cs => allC cs
  | .tup [] => true
  | v => okC v

def okL (sl : Sl) : List Opd → Bool
  | [] => true
  | x :: r => okV (evO sl x) && okL sl r

def okD (sl : Sl) : Option Nat → Bool
  | some t => okV (gs sl t)
  | none => true

def targetOf : AV → Option Nat
  | .ptr k _ => some k
  | .prow k _ _ _ => some k
  | _ => none

def fineAll (sl : Sl) (id : Nat) : List Opd → Bool
  | [] => true
  | x :: r => fineV id (evO sl x) && fineAll sl id r

def seenAt (sl : Sl) (a : COp) : Option Nat → Bool
  | some id => fineAll sl id (opds a)
  | none => false

/-- An argument: what it points to is not looked at. -/
def awayV (sl : Sl) (xs : List Opd) : AV → Bool
  | .ptr k _ => fineAll sl k xs
  | .prow _ _ _ _ => false
  | _ => true

def awayL (sl : Sl) (xs : List Opd) : List Opd → Bool
  | [] => true
  | y :: r => awayV sl xs (evO sl y) && awayL sl xs r

/-- The row onto which is appended: it is not looked at. -/
def seenApp (sl : Sl) (a : COp) : AV → Bool
  | .nil => true
  | .tup [] => true
  | .own k => fineAll sl k (opds a)
  | .ownv k _ _ => fineAll sl k (opds a)
  | .sub k _ => fineAll sl k (opds a)
  | _ => false

/-- The row that is appended, where it may lose its nested ones: it is not looked at. -/
def seenSrc (sl : Sl) (a : COp) : AV → Bool
  | .own k => fineAll sl k (opds a)
  | v => okV v

def seenOp (sl : Sl) (d : Option Nat) : COp → COp → Bool
  | .move _, _ => okD sl d
  | a, .store _ _ x _ => seenAt sl a (targetOf (evO sl x))
  | a, .append _ _ _ flat x y => seenApp sl a (evO sl x) && (flat || seenSrc sl a (evO sl y))
  | a, .call _ as => okL sl (opds a) && (okD sl d && (okL sl as && awayL sl (opds a) as))
  | _, _ => false

def seenPair (os : List CO) (sl : Sl) (p : Nat × Nat) : Bool := match os[p.1]?, os[p.2]? with
  | some a, some b => seenOp sl a.dst a.op b.op
  | _, _ => false

def seenAll (os : List CO) (sl : Sl) : List (Nat × Nat) → Bool
  | [] => true
  | p :: r => seenPair os sl p && seenAll os sl r

section
variable (C : Orc) (M : Modes)

noncomputable def vops (nx : Nat) : Nat → List CO → Sl → Hp → Option (Sl × Hp)
  | _, [], sl, hp => some (sl, hp)
  | i, o :: rest, sl, hp => bnd (wantV sl o.guard) fun b =>
      if b then bnd (stepE (nx + 64 * i) o.dst sl hp (vop C M sl hp (nx + 64 * i) o.op)) fun r => vops nx (i + 1) rest r.1 r.2
      else vops nx (i + 1) rest (putD sl o.dst (.tup [])) hp

def quietC (c : CallEff) : List Nat → Hp → List Nat → List Nat → Option CallEff
  | [], [], [], [] => some c
  | _, _, _, _ => none

def quietE (e : Option CallEff) : Option CallEff := bnd e fun c => quietC c c.gone c.eff.sets c.eff.dels c.eff.frz

noncomputable def vopD (nx i : Nat) (tail : Bool) (o : COp) (sl : Sl) (hp : Hp) : Option CallEff :=
  if tail then vop C M sl hp (nx + 64 * i) o else quietE (vop C M sl hp (nx + 64 * i) o)

/-- A region that draws: most operations only add. -/
noncomputable def vopsD (nx : Nat) : Nat → Bool → List CO → Sl → Hp → Option (Sl × Hp)
  | _, _, [], sl, hp => some (sl, hp)
  | i, t, o :: rest, sl, hp => bnd (wantV sl o.guard) fun b =>
      if b then bnd (stepE (nx + 64 * i) o.dst sl hp (vopD C M nx i (CO.starts o) o.op sl hp)) fun r => vopsD nx (i + 1) t rest r.1 r.2
      else vopsD nx (i + 1) t rest (putD sl o.dst (.tup [])) hp

def keysOf {α : Type} : List (Nat × α) → List Nat
  | [] => []
  | (k, _) :: r => k :: keysOf r

def only {α : Type} (K : List Nat) : List (Nat × α) → List (Nat × α)
  | [] => []
  | (k, v) :: r => if K.contains k then (k, v) :: only K r else only K r

def numb : Nat → List AObj → Hp
  | _, [] => []
  | k, o :: r => numb (k + 1) r ++ [(k, o)]

def refsS : Sl → List Nat
  | [] => []
  | (_, v) :: r => refs v ++ refsS r

def isThere : Option AObj → Bool
  | some _ => true
  | none => false

/-- Is the name one of these, and does it name something? -/
def liveIn (hp : Hp) (ids : List Nat) (i : Nat) : Bool := ids.contains i && isThere (lkp hp i)

def dead (hp : Hp) (ids : List Nat) : List Nat → List Nat
  | [] => []
  | i :: r => if liveIn hp ids i then dead hp ids r else i :: dead hp ids r

def tidy (hp : Hp) (ids : List Nat) (v : AV) : AV := ren (posOf ids) (kill (dead hp ids (refs v)) v)

def tidyO (hp : Hp) (ids : List Nat) (o : AObj) : AObj := oren (posOf ids) (okill (dead hp ids (orefs o)) o)

def orefsO : Option AObj → List Nat
  | some o => orefs o
  | none => []

def orefsOf (hp : Hp) : List Nat → List Nat
  | [] => []
  | id :: r => orefsO (lkp hp id) ++ orefsOf hp r

/-- At a loop's head: the slots that were there when it began, the objects that they reach, numbered anew. -/
def canon (K : List Nat) (st : St) : St :=
  let sl := only K st.sl
  let ids := reach st.hp (fuelOf st.hp) (refsS sl ++ orefsOf st.hp (List.range st.m)) (List.range st.m)
  { sl := mapV (tidy st.hp ids) sl, hp := numb 0 ((lkpL st.hp ids).map (tidyO st.hp ids)), nx := ids.length, m := st.m }

def vloop (f : St → Option (Ex × St)) (K : List Nat) : Nat → St → Option (Ex × St)
  | 0, _ => none
  | n + 1, st => match f (canon K st) with
    | some (.normal, st') => vloop f K n st'
    | r => r

def andThen (r : Option (Ex × St)) (k : St → Option (Ex × St)) : Option (Ex × St) := match r with
  | some (.normal, st) => k st
  | r => r

def condV (v : AV) (a b : Option (Ex × St)) : Option (Ex × St) := match v with
  | .d (.bool t) => if t then a else b
  | _ => none

def inBlk (id : Nat) (r : Option (Ex × St)) : Option (Ex × St) := match r with
  | some (.exit j, st) => if j = id then some (.normal, st) else some (.exit j, st)
  | r => r

def seenR (ops : List CO) (ps : List (Nat × Nat)) (r : Option (Sl × Hp)) : Option (Sl × Hp) := bnd r fun r => if seenAll ops r.1 ps then some r else none

def regK (m nx : Nat) (r : Option (Sl × Hp)) : Option (Ex × St) := bnd r fun r => some (.normal, { sl := r.1, hp := r.2, nx := nx, m := m })

/-- Of the slots only these are kept. -/
def keepR (K : List Nat) (r : Option (Ex × St)) : Option (Ex × St) := match r with
  | some q => some (q.1, { q.2 with sl := only K q.2.sl })
  | none => none

/-- A nested row's header gets a name. -/
def linkO (nx n j : Nat) : Option AObj → Option AObj
  | some (.deep s k xs _) => bnd (nestedAt xs n j) fun _ => some (.deep s k xs (some (nx, n, j)))
  | _ => none

def linkSt (id : Nat) (i : Opd) (j : Nat) (st : St) : Option St := bnd (idx (evO st.sl i)) fun n => if 0 ≤ n then bnd (linkO st.nx n.toNat j (lkp st.hp id)) fun o => some { st with hp := ins st.hp id o, nx := st.nx + 64 } else none

def meltSt (st : St) : St := { st with hp := mapV meltO st.hp }

noncomputable def vrun (N : Nat) : CCode → St → Option (Ex × St)
  | .skip, st => some (.normal, st)
  | .region n none ops, st => regK st.m (st.nx + 64 * n) (vops C M st.nx 0 ops st.sl st.hp)
  | .region n (some ps) ops, st => regK st.m (st.nx + 64 * n) (seenR ops ps (vopsD C M st.nx 0 false ops st.sl st.hp))
  | .seq a b, st => andThen (vrun N a st) (vrun N b)
  | .cond c a b, st => condV (evO st.sl c) (vrun N a st) (vrun N b st)
  | .block id c, st => inBlk id (vrun N c st)
  | .loop c, st => vloop (vrun N c) (keysOf st.sl) N st
  | .exit id, st => some (.exit id, st)
  | .ret, st => some (.ret, st)
  | .keep K c, st => keepR K (vrun N c st)
  | .stuck, _ => none
  | .link id i j c, st => bnd (linkSt id i j st) (vrun N c)
  | .melt c, st => vrun N c (meltSt st)

def resv (st : St) : CRes → Option AV
  | .tmp t => some (gs st.sl t)
  | .cell a g s => loadv st.hp g s (gs st.sl a)

/-- A result, the objects that were handed over, and the new ones that it reaches. -/
def handBack (m : Nat) (hp : Hp) (v : AV) : AV × List AObj :=
  let ids := reach hp (fuelOf hp) (refs v ++ orefsOf hp (List.range m)) (List.range m)
  (tidy hp ids v, (lkpL hp ids).map (tidyO hp ids))

def isTup : AV → Bool
  | .tup _ => true
  | _ => false

def anyTup : List AV → Bool
  | [] => false
  | v :: r => isTup v || anyTup r

def oneOf : List AV → AV
  | [v] => v
  | vs => if anyTup vs then .junk else .tup vs

def numbV : Nat → List AV → Sl
  | _, [] => []
  | k, v :: r => numbV (k + 1) r ++ [(k, v)]

/-- What a body comes to. -/
def resK (m : Nat) (rs : List CRes) (r : Option (Ex × St)) : Option (AV × List AObj) := match r with
  | some (.normal, st) => bnd (mapO (resv st) rs) fun vs => some (handBack m st.hp (oneOf vs))
  | some (.ret, st) => bnd (mapO (resv st) rs) fun vs => some (handBack m st.hp (oneOf vs))
  | _ => none

noncomputable def vbody (N : Nat) (fn : CFun) (as : List AV) (h : List AObj) : Option (AV × List AObj) :=
  if as.length ≤ fn.nt then resK h.length fn.res (vrun C M N fn.body { sl := numbV 0 as, hp := numb 0 h, nx := h.length, m := h.length }) else none

end

/-- A function: by its text, or by what it comes to. -/
inductive Fn where
  | text (f : CFun)
  | prim (p : List AV → List AObj → Option (AV × List AObj))

abbrev Fns := Nat → Option Fn

noncomputable def callFn (C : Orc) (M : Modes) (N : Nat) (as : List AV) (h : List AObj) : Option Fn → Option (AV × List AObj)
  | some (.text f) => vbody C M N f as h
  | some (.prim p) => p as h
  | none => none

noncomputable def vcallN (X : Fns) (M : Modes) : Nat → Orc
  | 0, _, _, _ => none
  | n + 1, f, as, h => callFn (vcallN X M n) M n as h (X f)

/-! ## The limit -/

open Classical in
noncomputable def lim {α : Type} (x : Nat → Option α) : Option α := if h : ∃ r, ∃ n, x n = some r then some h.choose else none

def Mono {α : Type} (x : Nat → Option α) : Prop := ∀ n r, x n = some r → x (n + 1) = some r

theorem Mono.le {α : Type} {x : Nat → Option α} (h : Mono x) {n m : Nat} {r : α} (hr : x n = some r) (hnm : n ≤ m) : x m = some r := by
  induction hnm with
  | refl => exact hr
  | step _ ih => exact h _ _ ih

theorem lim_eq {α : Type} {x : Nat → Option α} (h : Mono x) {n : Nat} {r : α} (hr : x n = some r) : lim x = some r := by
  have he : ∃ r, ∃ n, x n = some r := ⟨r, n, hr⟩
  unfold lim
  rw [dif_pos he]
  obtain ⟨m, hm⟩ := he.choose_spec
  have h1 := h.le hm (Nat.le_max_left m n)
  have h2 := h.le hr (Nat.le_max_right m n)
  rw [h1] at h2
  exact h2

theorem lim_some {α : Type} {x : Nat → Option α} {r : α} (hr : lim x = some r) : ∃ n, x n = some r := by
  unfold lim at hr
  split at hr
  · rename_i h
    obtain ⟨n, hn⟩ := h.choose_spec
    exact ⟨n, by rw [hn]; exact hr⟩
  · cases hr

/-- One oracle tells what the other tells. -/
def Orc.le (C C' : Orc) : Prop := ∀ f as h r, C f as h = some r → C' f as h = some r

section
variable {M : Modes} {C C' : Orc}

theorem bnd_le {α β : Type} {x x' : Option α} {f f' : α → Option β} {r : β} (hx : ∀ a, x = some a → x' = some a) (hf : ∀ a, f a = some r → f' a = some r) (h : bnd x f = some r) : bnd x' f' = some r := by
  obtain ⟨a, h1, h2⟩ := bnd_eq_some h
  rw [hx a h1]; exact hf a h2

theorem callv_le (h : C.le C') {m : Nat → Bool} {hp : Hp} {base f : Nat} {avs : List AV} {r : CallEff}
    (hr : callv C m hp base f avs = some r) : callv C' m hp base f avs = some r := by
  unfold callv at hr ⊢
  refine bnd_le (fun _ h => h) (fun as hr => ?_) hr
  unfold callIds at hr ⊢
  by_cases hc : (as.flatMap refs).all (reach hp (fuelOf hp) (as.flatMap refs) []).contains ∧ ¬ (lentOf avs as).any (reach hp (fuelOf hp) (as.flatMap refs) []).contains ∧ flatIds hp (as.flatMap ptrsV) (reach hp (fuelOf hp) (as.flatMap refs) []) = true
  · rw [if_pos hc] at hr ⊢
    exact bnd_le (fun q hq => h _ _ _ _ hq) (fun _ h => h) hr
  · rw [if_neg hc] at hr; cases hr

theorem vop_le (h : C.le C') {sl : Sl} {hp : Hp} {base : Nat} {o : COp} {r : CallEff} (hr : vop C M sl hp base o = some r) :
    vop C' M sl hp base o = some r := by
  cases o with
  | call f as =>
    simp only [vop] at hr ⊢
    cases hg : evO sl f <;> simp only [hg, callOf] at hr ⊢ <;> first | exact callv_le h hr | exact hr
  | _ => exact hr

theorem vops_le (h : C.le C') (nx : Nat) : ∀ (l : List CO) (i : Nat) (sl : Sl) (hp : Hp) (r : Sl × Hp),
    vops C M nx i l sl hp = some r → vops C' M nx i l sl hp = some r := by
  intro l
  induction l with
  | nil => intro i sl hp r hr; exact hr
  | cons o rest ih =>
    intro i sl hp r hr
    simp only [vops] at hr ⊢
    refine bnd_le (fun _ h => h) (fun b hr => ?_) hr
    cases b
    · simp only [Bool.false_eq_true, if_false] at hr ⊢
      exact ih _ _ _ _ hr
    · simp only [if_true] at hr ⊢
      refine bnd_le (fun q hq => ?_) (fun q hq => ih _ _ _ _ hq) hr
      unfold stepE at hq ⊢
      exact bnd_le (fun e he => vop_le h he) (fun _ h => h) hq

theorem vopD_le (h : C.le C') {nx i : Nat} {t : Bool} {o : COp} {sl : Sl} {hp : Hp} {e : CallEff} (he : vopD C M nx i t o sl hp = some e) :
    vopD C' M nx i t o sl hp = some e := by
  unfold vopD at he ⊢
  cases t
  · simp only [Bool.false_eq_true, if_false, quietE] at he ⊢
    exact bnd_le (fun _ hv => vop_le h hv) (fun _ h => h) he
  · simp only [if_true] at he ⊢
    exact vop_le h he

theorem vopsD_le (h : C.le C') (nx : Nat) : ∀ (l : List CO) (i : Nat) (t : Bool) (sl : Sl) (hp : Hp) (r : Sl × Hp),
    vopsD C M nx i t l sl hp = some r → vopsD C' M nx i t l sl hp = some r := by
  intro l
  induction l with
  | nil => intro i t sl hp r hr; exact hr
  | cons o rest ih =>
    intro i t sl hp r hr
    simp only [vopsD] at hr ⊢
    refine bnd_le (fun _ h => h) (fun b hr => ?_) hr
    cases b
    · simp only [Bool.false_eq_true, if_false] at hr ⊢
      exact ih _ _ _ _ _ hr
    · simp only [if_true] at hr ⊢
      refine bnd_le (fun q hq => ?_) (fun q hq => ih _ _ _ _ _ hq) hr
      unfold stepE at hq ⊢
      exact bnd_le (fun e he => vopD_le h he) (fun _ h => h) hq

theorem vloop_le {f g : St → Option (Ex × St)} (h : ∀ st r, f st = some r → g st = some r) (K : List Nat) :
    ∀ (n m : Nat) (st : St) (r : Ex × St), n ≤ m → vloop f K n st = some r → vloop g K m st = some r := by
  intro n
  induction n with
  | zero => intro m st r _ hr; simp [vloop] at hr
  | succ n ih =>
    intro m st r hm hr
    cases m with
    | zero => omega
    | succ m =>
      simp only [vloop] at hr ⊢
      cases hf : f (canon K st) with
      | none => simp [hf] at hr
      | some q =>
        rw [hf] at hr
        rw [h _ _ hf]
        obtain ⟨e, st'⟩ := q
        cases e with
        | normal => exact ih m st' r (by omega) hr
        | exit id => exact hr
        | ret => exact hr

theorem vrun_le (h : C.le C') {N N' : Nat} (hN : N ≤ N') : ∀ (c : CCode) (st : St) (r : Ex × St),
    vrun C M N c st = some r → vrun C' M N' c st = some r := by
  intro c
  induction c with
  | skip => intro st r hr; simpa [vrun] using hr
  | region n draw ops =>
    intro st r hr
    cases draw
    · simp only [vrun, regK] at hr ⊢
      exact bnd_le (fun q hq => vops_le h _ _ _ _ _ _ hq) (fun _ h => h) hr
    · simp only [vrun, regK, seenR] at hr ⊢
      exact bnd_le (fun q hq => bnd_le (fun q hq => vopsD_le h _ _ _ _ _ _ _ hq) (fun _ h => h) hq) (fun _ h => h) hr
  | seq a b iha ihb =>
    intro st r hr
    simp only [vrun] at hr ⊢
    cases ha : vrun C M N a st with
    | none => simp [ha, andThen] at hr
    | some q =>
      rw [ha] at hr
      rw [iha _ _ ha]
      obtain ⟨e, st'⟩ := q
      cases e with
      | normal => exact ihb _ _ hr
      | exit id => exact hr
      | ret => exact hr
  | cond c a b iha ihb =>
    intro st r hr
    simp only [vrun, condV] at hr ⊢
    split at hr
    · rename_i t ht
      cases t
      · simp only [Bool.false_eq_true, if_false] at hr ⊢; exact ihb _ _ hr
      · simp only [if_true] at hr ⊢; exact iha _ _ hr
    · cases hr
  | block id c ih =>
    intro st r hr
    simp only [vrun] at hr ⊢
    cases hc : vrun C M N c st with
    | none => simp [hc, inBlk] at hr
    | some q => rw [hc] at hr; rw [ih _ _ hc]; exact hr
  | loop c ih =>
    intro st r hr
    simp only [vrun] at hr ⊢
    exact vloop_le ih _ _ _ _ _ hN hr
  | exit id => intro st r hr; simpa [vrun] using hr
  | ret => intro st r hr; simpa [vrun] using hr
  | keep K c ih =>
    intro st r hr
    simp only [vrun] at hr ⊢
    cases hc : vrun C M N c st with
    | none => simp [hc, keepR] at hr
    | some q => rw [hc] at hr; rw [ih _ _ hc]; exact hr
  | stuck => intro st r hr; simp [vrun] at hr
  | link id i j c ih =>
    intro st r hr
    simp only [vrun] at hr ⊢
    obtain ⟨st', h1, h2⟩ := bnd_eq_some hr
    rw [h1, bnd_some]
    exact ih st' r h2
  | melt c ih =>
    intro st r hr
    simp only [vrun] at hr ⊢
    exact ih _ r hr

theorem vbody_le (h : C.le C') {N N' : Nat} (hN : N ≤ N') {f : CFun} {as : List AV} {hh : List AObj} {r : AV × List AObj}
    (hr : vbody C M N f as hh = some r) : vbody C' M N' f as hh = some r := by
  unfold vbody at hr ⊢
  by_cases hl : as.length ≤ f.nt
  · rw [if_pos hl] at hr ⊢
    cases hv : vrun C M N f.body { sl := numbV 0 as, hp := numb 0 hh, nx := hh.length, m := hh.length } with
    | none => simp [hv, resK] at hr
    | some q => rw [hv] at hr; rw [vrun_le h hN _ _ _ hv]; exact hr
  · rw [if_neg hl] at hr; cases hr

end

section
variable (X : Fns) (M : Modes)

theorem vcallN_le : ∀ n, (vcallN X M n).le (vcallN X M (n + 1)) := by
  intro n
  induction n with
  | zero => intro f as h r hr; simp [vcallN] at hr
  | succ n ih =>
    intro f as h r hr
    rw [vcallN] at hr ⊢
    cases hf : X f with
    | none => rw [hf] at hr; cases hr
    | some g =>
      rw [hf] at hr
      cases g with
      | text g => exact vbody_le ih (Nat.le_succ n) hr
      | prim p => exact hr

/-- What a call comes to. -/
noncomputable def vcall (f : Nat) (as : List AV) (h : List AObj) : Option (AV × List AObj) := lim fun n => vcallN X M n f as h

noncomputable def vrunL (c : CCode) (st : St) : Option (Ex × St) := lim fun n => vrun (vcallN X M n) M n c st

theorem vcallN_mono (f : Nat) (as : List AV) (h : List AObj) : Mono fun n => vcallN X M n f as h := fun n r hr => vcallN_le X M n f as h r hr

theorem vcallN_vcall (n : Nat) : (vcallN X M n).le (vcall X M) := fun f as h _ hr => lim_eq (vcallN_mono X M f as h) hr

theorem vrunN_mono (c : CCode) (st : St) : Mono fun n => vrun (vcallN X M n) M n c st := fun n r hr => vrun_le (vcallN_le X M n) (Nat.le_succ n) c st r hr

theorem vcallN_le' {n m : Nat} (h : n ≤ m) : (vcallN X M n).le (vcallN X M m) := fun f as hh _ hr => (vcallN_mono X M f as hh).le hr h

/-! A finite part of the limit oracle is known at some stage. -/

theorem callv_stage {m : Nat → Bool} {hp : Hp} {base f : Nat} {avs : List AV} {r : CallEff}
    (hr : callv (vcall X M) m hp base f avs = some r) : ∃ n, callv (vcallN X M n) m hp base f avs = some r := by
  unfold callv at hr ⊢
  obtain ⟨as, has, hr⟩ := bnd_eq_some hr
  simp only [has, bnd_some]
  unfold callIds at hr ⊢
  by_cases hc : (as.flatMap refs).all (reach hp (fuelOf hp) (as.flatMap refs) []).contains ∧ ¬ (lentOf avs as).any (reach hp (fuelOf hp) (as.flatMap refs) []).contains ∧ flatIds hp (as.flatMap ptrsV) (reach hp (fuelOf hp) (as.flatMap refs) []) = true
  · rw [if_pos hc] at hr
    obtain ⟨q, hq, hr⟩ := bnd_eq_some hr
    obtain ⟨n, hn⟩ := lim_some hq
    refine ⟨n, ?_⟩
    rw [if_pos hc, hn]
    exact hr
  · rw [if_neg hc] at hr; cases hr

theorem vop_stage {sl : Sl} {hp : Hp} {base : Nat} {o : COp} {r : CallEff} (hr : vop (vcall X M) M sl hp base o = some r) :
    ∃ n, vop (vcallN X M n) M sl hp base o = some r := by
  cases o with
  | call f as =>
    simp only [vop] at hr ⊢
    cases hg : evO sl f <;> simp only [hg, callOf] at hr ⊢ <;> first | exact callv_stage X M hr | exact ⟨0, hr⟩
  | _ => exact ⟨0, hr⟩

theorem vops_stage (nx : Nat) : ∀ (l : List CO) (i : Nat) (sl : Sl) (hp : Hp) (r : Sl × Hp),
    vops (vcall X M) M nx i l sl hp = some r → ∃ n, vops (vcallN X M n) M nx i l sl hp = some r := by
  intro l
  induction l with
  | nil => intro i sl hp r hr; exact ⟨0, hr⟩
  | cons o rest ih =>
    intro i sl hp r hr
    simp only [vops] at hr ⊢
    obtain ⟨b, hb, hr⟩ := bnd_eq_some hr
    simp only [hb, bnd_some]
    cases b
    · simp only [Bool.false_eq_true, if_false] at hr ⊢
      exact ih _ _ _ _ hr
    · simp only [if_true] at hr ⊢
      obtain ⟨q, hq, hr⟩ := bnd_eq_some hr
      unfold stepE at hq
      obtain ⟨e, he, hq⟩ := bnd_eq_some hq
      obtain ⟨n1, h1⟩ := vop_stage X M he
      obtain ⟨n2, h2⟩ := ih _ _ _ _ hr
      refine ⟨max n1 n2, ?_⟩
      unfold stepE
      rw [vop_le (vcallN_le' X M (Nat.le_max_left n1 n2)) h1, bnd_some, hq, bnd_some]
      exact vops_le (vcallN_le' X M (Nat.le_max_right n1 n2)) _ _ _ _ _ _ h2

theorem vopD_stage {nx i : Nat} {t : Bool} {o : COp} {sl : Sl} {hp : Hp} {e : CallEff} (he : vopD (vcall X M) M nx i t o sl hp = some e) :
    ∃ n, vopD (vcallN X M n) M nx i t o sl hp = some e := by
  unfold vopD at he ⊢
  cases t
  · simp only [Bool.false_eq_true, if_false, quietE] at he ⊢
    obtain ⟨e', he', h2⟩ := bnd_eq_some he
    obtain ⟨n, hn⟩ := vop_stage X M he'
    exact ⟨n, by rw [hn]; exact h2⟩
  · simp only [if_true] at he ⊢
    exact vop_stage X M he

theorem vopsD_stage (nx : Nat) : ∀ (l : List CO) (i : Nat) (t : Bool) (sl : Sl) (hp : Hp) (r : Sl × Hp),
    vopsD (vcall X M) M nx i t l sl hp = some r → ∃ n, vopsD (vcallN X M n) M nx i t l sl hp = some r := by
  intro l
  induction l with
  | nil => intro i t sl hp r hr; exact ⟨0, hr⟩
  | cons o rest ih =>
    intro i t sl hp r hr
    simp only [vopsD] at hr ⊢
    obtain ⟨b, hb, hr⟩ := bnd_eq_some hr
    simp only [hb, bnd_some]
    cases b
    · simp only [Bool.false_eq_true, if_false] at hr ⊢
      exact ih _ _ _ _ _ hr
    · simp only [if_true] at hr ⊢
      obtain ⟨q, hq, hr⟩ := bnd_eq_some hr
      unfold stepE at hq
      obtain ⟨e, he, hq⟩ := bnd_eq_some hq
      obtain ⟨n1, h1⟩ := vopD_stage X M he
      obtain ⟨n2, h2⟩ := ih _ _ _ _ _ hr
      refine ⟨max n1 n2, ?_⟩
      unfold stepE
      rw [vopD_le (vcallN_le' X M (Nat.le_max_left n1 n2)) h1, bnd_some, hq, bnd_some]
      exact vopsD_le (vcallN_le' X M (Nat.le_max_right n1 n2)) _ _ _ _ _ _ _ h2

/-! ## The limit, equation by equation -/

theorem vrunL_of {c : CCode} {st : St} {n : Nat} {r : Ex × St} (h : vrun (vcallN X M n) M n c st = some r) : vrunL X M c st = some r :=
  lim_eq (vrunN_mono X M c st) h

theorem lim_none {α : Type} {x : Nat → Option α} (h : ∀ n, x n = none) : lim x = none := by
  cases hx : lim x with
  | none => rfl
  | some r => obtain ⟨n, hn⟩ := lim_some hx; rw [h n] at hn; cases hn

theorem vrunL_skip (st : St) : vrunL X M .skip st = some (.normal, st) := vrunL_of X M (n := 0) (by simp [vrun])
theorem vrunL_exit (id : Nat) (st : St) : vrunL X M (.exit id) st = some (.exit id, st) := vrunL_of X M (n := 0) (by simp [vrun])
theorem vrunL_ret (st : St) : vrunL X M .ret st = some (.ret, st) := vrunL_of X M (n := 0) (by simp [vrun])

theorem vrunL_region (n : Nat) (ops : List CO) (st : St) :
    vrunL X M (.region n none ops) st = regK st.m (st.nx + 64 * n) (vops (vcall X M) M st.nx 0 ops st.sl st.hp) := by
  cases h : vops (vcall X M) M st.nx 0 ops st.sl st.hp with
  | some r =>
    obtain ⟨k, hk⟩ := vops_stage X M _ _ _ _ _ _ h
    exact vrunL_of X M (n := k) (by simp only [vrun, hk, regK, bnd_some])
  | none =>
    refine lim_none fun k => ?_
    simp only [vrun]
    cases hn : vops (vcallN X M k) M st.nx 0 ops st.sl st.hp with
    | none => rfl
    | some r => rw [vops_le (vcallN_vcall X M k) _ _ _ _ _ _ hn] at h; cases h

theorem vrunL_draw (n : Nat) (ps : List (Nat × Nat)) (ops : List CO) (st : St) :
    vrunL X M (.region n (some ps) ops) st = regK st.m (st.nx + 64 * n) (seenR ops ps (vopsD (vcall X M) M st.nx 0 false ops st.sl st.hp)) := by
  cases h : vopsD (vcall X M) M st.nx 0 false ops st.sl st.hp with
  | some r =>
    obtain ⟨k, hk⟩ := vopsD_stage X M _ _ _ _ _ _ _ h
    cases hs : seenR ops ps (some r) with
    | none =>
      refine lim_none fun k' => ?_
      simp only [vrun]
      cases hn : vopsD (vcallN X M k') M st.nx 0 false ops st.sl st.hp with
      | none => rfl
      | some r' =>
        have := vopsD_le (vcallN_vcall X M k') _ _ _ _ _ _ _ hn
        rw [h] at this
        cases this
        rw [hs]; rfl
    | some r' => exact vrunL_of X M (n := k) (by simp only [vrun, hk, hs]; rfl)
  | none =>
    refine lim_none fun k => ?_
    simp only [vrun]
    cases hn : vopsD (vcallN X M k) M st.nx 0 false ops st.sl st.hp with
    | none => rfl
    | some r => rw [vopsD_le (vcallN_vcall X M k) _ _ _ _ _ _ _ hn] at h; cases h

theorem vrun_at {c : CCode} {st : St} {r : Ex × St} (h : vrunL X M c st = some r) : ∃ n, ∀ m, n ≤ m → vrun (vcallN X M m) M m c st = some r := by
  obtain ⟨n, hn⟩ := lim_some h
  exact ⟨n, fun m hm => (vrunN_mono X M c st).le hn hm⟩

theorem vrunL_seq (a b : CCode) (st : St) : vrunL X M (.seq a b) st = andThen (vrunL X M a st) (vrunL X M b) := by
  cases ha : vrunL X M a st with
  | none =>
    refine lim_none fun n => ?_
    cases h : vrun (vcallN X M n) M n a st with
    | none => simp [vrun, h, andThen]
    | some q => rw [vrunL_of X M h] at ha; cases ha
  | some q =>
    obtain ⟨e, st'⟩ := q
    obtain ⟨n, hn⟩ := vrun_at X M ha
    cases e with
    | normal =>
      simp only [andThen]
      cases hb : vrunL X M b st' with
      | none =>
        refine lim_none fun k => ?_
        cases h : vrun (vcallN X M k) M k (.seq a b) st with
        | none => rfl
        | some q =>
          have h1 := (vrunN_mono X M (.seq a b) st).le h (Nat.le_max_left k n)
          simp only [vrun, hn _ (Nat.le_max_right k n), andThen] at h1
          rw [vrunL_of X M h1] at hb
          cases hb
      | some q =>
        obtain ⟨m, hm⟩ := vrun_at X M hb
        refine vrunL_of X M (n := max n m) ?_
        simp only [vrun, hn _ (Nat.le_max_left n m), andThen, hm _ (Nat.le_max_right n m)]
    | exit id => exact vrunL_of X M (n := n) (by simp only [vrun, hn _ (Nat.le_refl n), andThen])
    | ret => exact vrunL_of X M (n := n) (by simp only [vrun, hn _ (Nat.le_refl n), andThen])

theorem vrunL_cond (c : Opd) (a b : CCode) (st : St) :
    vrunL X M (.cond c a b) st = condV (evO st.sl c) (vrunL X M a st) (vrunL X M b st) := by
  unfold condV
  split
  · rename_i t h
    cases t
    · simp only [Bool.false_eq_true, if_false, vrunL, vrun, h, condV]
    · simp only [if_true, vrunL, vrun, h, condV]
  · rename_i h
    refine lim_none fun n => ?_
    simp only [vrun, condV]

theorem vrunL_block (id : Nat) (c : CCode) (st : St) : vrunL X M (.block id c) st = inBlk id (vrunL X M c st) := by
  cases hc : vrunL X M c st with
  | none =>
    refine lim_none fun n => ?_
    cases h : vrun (vcallN X M n) M n c st with
    | none => simp [vrun, h, inBlk]
    | some q => rw [vrunL_of X M h] at hc; cases hc
  | some q =>
    obtain ⟨n, hn⟩ := vrun_at X M hc
    cases hb : inBlk id (some q) with
    | none =>
      obtain ⟨e, st'⟩ := q
      cases e <;> simp [inBlk] at hb
      split at hb <;> cases hb
    | some r => exact vrunL_of X M (n := n) (by simp only [vrun, hn _ (Nat.le_refl n), hb])

theorem vrunL_keep (K : List Nat) (c : CCode) (st : St) : vrunL X M (.keep K c) st = keepR K (vrunL X M c st) := by
  cases hc : vrunL X M c st with
  | none =>
    refine lim_none fun n => ?_
    cases h : vrun (vcallN X M n) M n c st with
    | none => simp [vrun, h, keepR]
    | some q => rw [vrunL_of X M h] at hc; cases hc
  | some q =>
    obtain ⟨n, hn⟩ := vrun_at X M hc
    exact vrunL_of X M (n := n) (by simp only [vrun, hn _ (Nat.le_refl n), keepR])

theorem vrunL_link (id : Nat) (i : Opd) (j : Nat) (c : CCode) (st : St) : vrunL X M (.link id i j c) st = bnd (linkSt id i j st) (vrunL X M c) := by
  cases hl : linkSt id i j st with
  | none =>
    refine lim_none fun n => ?_
    simp only [vrun, hl]; rfl
  | some st' =>
    rw [bnd_some]
    cases hc : vrunL X M c st' with
    | none =>
      refine lim_none fun n => ?_
      cases h : vrun (vcallN X M n) M n c st' with
      | none => simp only [vrun, hl, bnd_some, h]
      | some q => rw [vrunL_of X M h] at hc; cases hc
    | some q =>
      obtain ⟨n, hn⟩ := vrun_at X M hc
      exact vrunL_of X M (n := n) (by simp only [vrun, hl, bnd_some, hn _ (Nat.le_refl n)])

theorem vrunL_melt (c : CCode) (st : St) : vrunL X M (.melt c) st = vrunL X M c (meltSt st) := by
  cases hc : vrunL X M c (meltSt st) with
  | none =>
    refine lim_none fun n => ?_
    cases h : vrun (vcallN X M n) M n c (meltSt st) with
    | none => simp only [vrun, h]
    | some q => rw [vrunL_of X M h] at hc; cases hc
  | some q =>
    obtain ⟨n, hn⟩ := vrun_at X M hc
    exact vrunL_of X M (n := n) (by simp only [vrun, hn _ (Nat.le_refl n)])

/-- A loop, from some state at its head on. -/
noncomputable def vloopL (c : CCode) (K : List Nat) (st : St) : Option (Ex × St) := lim fun n => vloop (vrun (vcallN X M n) M n c) K n st

theorem vloopN_mono (c : CCode) (K : List Nat) (st : St) : Mono fun n => vloop (vrun (vcallN X M n) M n c) K n st := fun n r hr =>
  vloop_le (fun _ _ h => vrun_le (vcallN_le X M n) (Nat.le_succ n) c _ _ h) K n (n + 1) st r (Nat.le_succ n) hr

theorem vrunL_loop (c : CCode) (st : St) : vrunL X M (.loop c) st = vloopL X M c (keysOf st.sl) st := by
  simp only [vrunL, vloopL, vrun]

/-- One round: it ends in the ordinary way, and the loop goes on. -/
theorem vloopL_next {c : CCode} {K : List Nat} {st st' : St} (h : vrunL X M c (canon K st) = some (.normal, st')) :
    vloopL X M c K st = vloopL X M c K st' := by
  obtain ⟨n, hn⟩ := vrun_at X M h
  cases hl : vloopL X M c K st' with
  | none =>
    refine lim_none fun k => ?_
    cases hk : vloop (vrun (vcallN X M k) M k c) K k st with
    | none => rfl
    | some q =>
      have h1 := (vloopN_mono X M c K st).le hk (show k ≤ max k n + 1 by omega)
      simp only [vloop] at h1
      rw [hn (max k n + 1) (by omega)] at h1
      simp only [] at h1
      have h2 := vloop_le (fun _ _ h => h) K (max k n) (max k n + 1) st' q (Nat.le_succ _) h1
      rw [show vloopL X M c K st' = some q from lim_eq (vloopN_mono X M c K st') h2] at hl
      cases hl
  | some q =>
    obtain ⟨m, hm⟩ := lim_some hl
    refine lim_eq (vloopN_mono X M c K st) (n := max n m + 1) ?_
    simp only [vloop, hn (max n m + 1) (by omega)]
    exact vloop_le (fun _ _ h => vrun_le (vcallN_le' X M (show m ≤ max n m + 1 by omega)) (show m ≤ max n m + 1 by omega) c _ _ h) K m (max n m) st' q (by omega) hm

/-- One round that leaves the loop. -/
theorem vloopL_out {c : CCode} {K : List Nat} {st st' : St} {e : Ex} (he : e ≠ .normal) (h : vrunL X M c (canon K st) = some (e, st')) :
    vloopL X M c K st = some (e, st') := by
  obtain ⟨n, hn⟩ := vrun_at X M h
  refine lim_eq (vloopN_mono X M c K st) (n := n + 1) ?_
  simp only [vloop, hn (n + 1) (by omega)]
  cases e with
  | normal => exact absurd rfl he
  | exit id => rfl
  | ret => rfl

/-- A call, by the function's text. -/
theorem vcall_of {f : Nat} {as : List AV} {h : List AObj} {fn : CFun} {r : AV × List AObj} (hx : X f = some (.text fn))
    (hl : as.length ≤ fn.nt) (hr : resK h.length fn.res (vrunL X M fn.body { sl := numbV 0 as, hp := numb 0 h, nx := h.length, m := h.length }) = some r) :
    vcall X M f as h = some r := by
  cases hv : vrunL X M fn.body { sl := numbV 0 as, hp := numb 0 h, nx := h.length, m := h.length } with
  | none => rw [hv] at hr; simp [resK] at hr
  | some q =>
    rw [hv] at hr
    obtain ⟨n, hn⟩ := vrun_at X M hv
    refine lim_eq (vcallN_mono X M f as h) (n := n + 1) ?_
    simp only [vcallN, hx, callFn, vbody, hl, if_true, hn n (Nat.le_refl n)]
    exact hr

theorem vcall_prim {f : Nat} {as : List AV} {h : List AObj} {p : List AV → List AObj → Option (AV × List AObj)} {r : AV × List AObj} (hx : X f = some (.prim p)) (hp : p as h = some r) :
    vcall X M f as h = some r :=
  lim_eq (vcallN_mono X M f as h) (n := 1) (by simp only [vcallN, hx, callFn, hp])

end
/-! ## From the model's codes to these -/

section
variable (P : Program)

def cCode (nt : Nat) : Code → Option CCode
  | .skip => some .skip
  | .region _ ops draw => bnd (mapO (cOper P nt ops.toList) ops.toList) fun os => if draw then (if drawOk ops os then some (.region ops.toList.length (some (loosePairs ops os)) os) else some .stuck) else some (.region ops.toList.length none os)
  | .seq a b => bnd (cCode nt a) fun a => bnd (cCode nt b) fun b => some (.seq a b)
  | .cond c a b => bnd (cOpd c) fun c => bnd (cCode nt a) fun a => bnd (cCode nt b) fun b => some (.cond c a b)
  | .block id c => bnd (cCode nt c) fun c => some (.block id c)
  | .loop c => bnd (cCode nt c) fun c => some (.loop c)
  | .exit id => some (.exit id)
  | .ret => some .ret
  | _ => some .stuck

def stripOp : COp → COp
  | .buildDp s _ xs => .buildSl s xs
  | .asgDp s _ x => .assign (some s) x
  | .appDp s b flat x y => .append s b false flat x y
  | c => c

def stripL : List CO → List CO
  | [] => []
  | o :: r => { o with op := stripOp o.op } :: stripL r

def stripR : Option (List (Nat × Nat)) → List CO → List CO
  | none, ops => stripL ops
  | some _, ops => ops

/-- The code without the marks of what is kept. -/
def strip : CCode → CCode
  | .keep _ c => strip c
  | .seq a b => .seq (strip a) (strip b)
  | .cond c a b => .cond c (strip a) (strip b)
  | .block id c => .block id (strip c)
  | .loop c => .loop (strip c)
  | .region n d ops => .region n d (stripR d ops)
  | .link _ _ _ c => strip c
  | .melt c => strip c
  | .skip => .skip
  | .exit id => .exit id
  | .ret => .ret
  | .stuck => .stuck

def stripF (cf : CFun) : CFun := { nt := cf.nt, res := cf.res, body := strip cf.body }

def cRes : ResultVar → Option CRes
  | .tmp t => some (.tmp t)
  | .cell a t => bnd (aggT P t) fun g => some (.cell a g (P.cellsOf t))

def cFun (fn : Func) : Option CFun := bnd fn.body fun c => bnd (cCode P fn.ntmps c) fun b => bnd (mapO (cRes P) fn.results.toList) fun rs => some { nt := fn.ntmps, res := rs, body := b }

end

end Go.Abs
