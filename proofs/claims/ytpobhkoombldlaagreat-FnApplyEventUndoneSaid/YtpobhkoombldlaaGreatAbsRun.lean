/- The abstract semantics: regions, codes, bodies, calls. Own text. -/
import Derived.Test.YtpobhkoombldlaaGreatAbsOps
set_option linter.unusedVariables false
set_option linter.unusedSimpArgs false
namespace Go.Abs
open Go
inductive Ex where
 | normal
 | exit (id : Nat)
 | ret
def Q4 (lo hi : Nat) : Hp → Bool
 | [] => true
 | (k, _) :: r => decide (lo ≤ k) && decide (k < hi) && Q4 (k + 1) hi r
def XF (gone : List Nat) (sl : Sl) : Sl := match gone with
 | [] => sl
 | _ => ZiS (kill gone) sl
def Vy (gone : List Nat) (hp : Hp) : Hp := match gone with
 | [] => hp
 | _ => ZiS (Ye gone) hp
def Zt (sl : Sl) (dst : Option Nat) (v : AV) : Sl := match dst with
 | some t => ins sl t v
 | none => sl
def Zf.on (e : Zf) (dst : Option Nat) (sl : Sl) (hp : Hp) : Sl × Hp :=
 (Zt (XF e.gone sl) dst e.eff.val, e.eff.on (Vy e.gone hp))
def Vj (base : Nat) (dst : Option Nat) (sl : Sl) (hp : Hp) (e : Option Zf) : Option (Sl × Hp) :=
 bnd e fun e => if Q4 base (base + 64) e.eff.adds then some (e.on dst sl hp) else none
def ZgN (want : Bool) : AV → Option Bool
 | .d (.bool b) => some (b == want)
 | .tup [] => some false
 | _ => none
def Z7 (sl : Sl) : Option (Nat × Bool) → Option Bool
 | none => some true
 | some q => ZgN q.2 (gs sl q.1)
inductive Zb where
 | skip
 | region (n : Nat) (draw : Option (List (Nat × Nat))) (ops : List CO)
 | seq (a b : Zb)
 | cond (c : Opd) (a b : Zb)
 | block (id : Nat) (c : Zb)
 | loop (c : Zb)
 | exit (id : Nat)
 | ret
 | keep (K : List Nat) (c : Zb)
 | stuck
 | link (id : Nat) (i : Opd) (j : Nat) (c : Zb)
 | melt (c : Zb)
inductive Zp1 where
 | tmp (t : Nat)
 | cell (a : Nat) (g : Bool) (s : Nat)
structure ZC where
 nt : Nat
 res : List Zp1
 body : Zb
def ZoL (x : Option Opd) : List Opd := match x with
 | some y => [y]
 | none => []
def ZM : COp → List Opd
 | .move x => [x]
 | .assign _ x => [x]
 | .pick c a b => [c, a, b]
 | .alloc _ _ => []
 | .box x => [x]
 | .build _ ps => ps.map fun q => q.2.2
 | .buildSl _ xs => xs
 | .load _ _ a => [a]
 | .store _ _ a x => [a, x]
 | .nilCheck x => [x]
 | .bin _ _ x y => [x, y]
 | .un _ x => [x]
 | .eqA _ _ x y => [x, y]
 | .convI _ x => [x]
 | .convS x => [x]
 | .fn _ cs => cs
 | .make _ _ _ l c => [l, c]
 | .slice _ x lo hi => x :: (ZoL lo ++ ZoL hi)
 | .sliceS x lo hi => x :: (ZoL lo ++ ZoL hi)
 | .slice0 x hi mx => [x, hi, mx]
 | .shift _ x => [x]
 | .part _ _ _ x => [x]
 | .iaS _ x i => [x, i]
 | .iaA _ _ x i => [x, i]
 | .ixS x i => [x, i]
 | .ixA _ _ _ x i => [x, i]
 | .nth _ x => [x]
 | .len x => [x]
 | .lenS x => [x]
 | .append _ _ _ _ x y => [x, y]
 | .min x y => [x, y]
 | .max x y => [x, y]
 | .call f as => f :: as
 | .slice3 _ x lo hi mx => [x, lo, hi, mx]
 | .clear _ _ x => [x]
 | .stuck => []
 | .buildDp _ _ xs => xs
 | .appDp _ _ _ x y => [x, y]
 | .asgDp _ _ x => [x]
def ZiK : COp → Bool
 | .store _ _ _ _ => true
 | _ => false
def isApp : COp → Bool
 | .append _ _ _ _ _ _ => true
 | _ => false
def ZoM (c : COp) : Bool := ZiK c || isApp c
def CO.starts (o : CO) : Bool := ZiK o.op || o.tl
def Z1 (os : List CO) (i : Nat) : Bool := match os[i]? with
 | some o => CO.starts o
 | none => false
def Zcp : Opd → List Nat
 | .t n => [n]
 | _ => []
def ZoN : Option (Nat × Bool) → List Nat
 | some q => [q.1]
 | none => []
def Vx (o : CO) : List Nat := (ZM o.op).flatMap Zcp ++ ZoN o.guard
def QU : Option Nat → List Nat → Bool
 | some d, l => !l.contains d
 | none, _ => true
def Zbo : Option Nat → Option Nat → Bool
 | some d, some e => d != e
 | _, _ => true
def X4 (a b : CO) : Bool := QU a.dst (Vx b) && Zbo a.dst b.dst && QU b.dst (Vx a)
def Vz : Opd → Bool
 | .v a => (ZF a).isEmpty && !Zqi a
 | _ => true
def Zr6 (os : List CO) (j i : Nat) : Bool := match os[j]?, os[i]? with
 | some a, some b => X4 a b
 | _, _ => false
def Ut : COp → Bool
 | .load _ _ _ => false
 | .store _ _ _ _ => false
 | .slice _ _ _ _ => false
 | .slice0 _ _ _ => false
 | .iaS _ _ _ => false
 | .len _ => false
 | .append _ _ _ _ _ _ => false
 | .buildSl _ _ => false
 | .buildDp _ _ _ => false
 | .appDp _ _ _ _ _ => false
 | .asgDp _ _ _ => false
 | .call _ _ => false
 | .slice3 _ _ _ _ _ => false
 | .clear _ _ _ => false
 | _ => true
def ZaU : COp → Bool
 | .load _ _ _ => true
 | .slice _ _ _ _ => true
 | .slice0 _ _ _ => true
 | .iaS _ _ _ => true
 | .len _ => true
 | _ => false
def ZuY : COp → Bool
 | .clear _ _ _ => false
 | .store _ _ _ _ => false
 | .append _ _ _ _ _ _ => false
 | .buildSl _ _ => false
 | .buildDp _ _ _ => false
 | .appDp _ _ _ _ _ => false
 | .asgDp _ _ _ => false
 | .call _ _ => false
 | _ => true
def J5 (os : List CO) (k : Nat) : Option Nat := match os[k]? with
 | some o => o.dst
 | none => none
def Zr7 (os : List CO) (k : Nat) : List Nat := match os[k]? with
 | some o => Vx o
 | none => []
def Zcq (os : List CO) (k : Nat) : Bool := (List.range os.length).all fun q => decide (q < k) || QU (J5 os q) (Zr7 os k)
def VR : COp → Bool
 | .move _ => true
 | _ => false
def ZgO : COp → Bool
 | .append _ _ _ _ _ _ => true
 | .buildSl _ _ => true
 | _ => false
def ZbF : COp → Bool
 | .call (.f _) _ => true
 | _ => false
def ZlI : COp → List Opd
 | .call _ as => as
 | _ => []
def ZuZ : COp → Bool
 | .alloc _ _ => false
 | .box _ => false
 | .assign _ _ => false
 | .make _ _ _ _ _ => false
 | .fn _ _ => false
 | _ => true
def ZqO : COp → Bool
 | .buildSl _ _ => true
 | _ => false
def Zh7 : AV → Bool
 | .d _ => true
 | .nil => true
 | .nilp => true
 | .nili => true
 | _ => false
def ZbS : List AV → Bool
 | [] => true
 | c :: r => Zh7 c && ZbS r
def Zm3 : COp → Bool
 | .alloc _ cs => ZbS cs
 | _ => false
def ZoO (c : COp) : Bool := ZaU c || ZqO c || (Ut c && ZuZ c) || Zm3 c
def ZkK : COp → Bool
 | .alloc _ cs => ZbS cs
 | .buildSl _ _ => true
 | .load _ _ _ => true
 | .nilCheck _ => true
 | .bin _ _ _ _ => true
 | .un _ _ => true
 | .convI _ _ => true
 | .shift _ _ => true
 | .iaS _ _ _ => true
 | .slice _ _ _ _ => true
 | .len _ => true
 | .sliceS _ _ _ => true
 | .lenS _ => true
 | _ => false
def ZA5 : Option Nat → Bool
 | some _ => true
 | none => false
def ZmU (os : List CO) (k : Nat) : Bool := ZA5 (J5 os k) && (List.range os.length).all fun q => q == k || Zbo (J5 os q) (J5 os k)
def ZkL (os : List CO) (j i : Nat) : Bool := Zcq os j && Zcq os i
def ZxZ (os : List CO) (j i : Nat) (a b : COp) : Bool :=
 ZuY b || (ZoM b && (Ut a || (!VR a && ZaU a && ZkL os j i))) || (VR a && (ZgO b || ZmU os j)) || (!VR a && ZbF b && ZoO a && ZkL os j i && ZmU os j)
def Zx0 (os : List CO) (j i : Nat) (a b : COp) : Bool := (VR b && ZmU os i) || (!VR b && ZbF a && ZkK b && ZkL os j i && ZmU os i)
def Zr8 (os : List CO) (j i : Nat) : Bool := match os[j]?, os[i]? with
 | some a, some b => if Z1 os j then !Z1 os i && Zx0 os j i a.op b.op else !Z1 os i || ZxZ os j i a.op b.op
 | _, _ => false
def ZgP (os : List CO) (j i : Nat) : Option (Nat × Nat) := match os[j]?, os[i]? with
 | some a, some b => if Z1 os j then (if VR b.op || ZbF a.op then some (i, j) else none) else
   if Z1 os i && (if ZoM b.op then !(Ut a.op) else if VR a.op then !(ZgO b.op) else ZbF b.op) then some (j, i) else none
 | _, _ => none
def optP : Option (Nat × Nat) → List (Nat × Nat)
 | some p => [p]
 | none => []
def Zd6 (ops : Array Oper) (os : List CO) : List (Nat × Nat) :=
 (List.range ops.size).flatMap fun i => (List.range i).flatMap fun j => if ZjJ ops 6 i j then [] else optP (ZgP os j i)
def ZoP (ops : Array Oper) (os : List CO) : Bool :=
 (List.range ops.size).all (fun i => (WZ ops i).all fun e => decide (e < i)) &&
 (List.range ops.size).all (fun i => (List.range i).all fun j => (WZ ops i).contains j || Zr6 os j i) &&
 (List.range ops.size).all (fun i => (List.range i).all fun j => ZjJ ops 6 i j || Zr8 os j i) &&
 os.all (fun o => (ZM o.op).all Vz)
def Zd7 (id : Nat) : AV → Bool
 | .d _ => true
 | .pim _ => true
 | .nil => true
 | .ptr k _ => k != id
 | .prow k _ _ _ => k != id
 | .own k => k != id
 | .ownv k _ _ => k != id
 | .nilp => true
 | .nili => true
 | .tup [] => true
 | _ => false
def okC : AV → Bool
 | .d _ => true
 | .pim _ => true
 | .nil => true
 | .ptr _ _ => true
 | .prow _ _ _ _ => true
 | .own _ => true
 | .ownv _ _ _ => true
 | .nilp => true
 | .nili => true
 | _ => false
def Zr9 : List AV → Bool
 | [] => true
 | v :: r => okC v && Zr9 r
def okV : AV → Bool
 | .agg cs => Zr9 cs
 | .tup [] => true
 | v => okC v
def okL (sl : Sl) : List Opd → Bool
 | [] => true
 | x :: r => okV (evO sl x) && okL sl r
def okD (sl : Sl) : Option Nat → Bool
 | some t => okV (gs sl t)
 | none => true
def Wy : AV → Option Nat
 | .ptr k _ => some k
 | .prow k _ _ _ => some k
 | _ => none
def XL (sl : Sl) (id : Nat) : List Opd → Bool
 | [] => true
 | x :: r => Zd7 id (evO sl x) && XL sl id r
def ZgQ (sl : Sl) (a : COp) : Option Nat → Bool
 | some id => XL sl id (ZM a)
 | none => false
def Zd8 (sl : Sl) (xs : List Opd) : AV → Bool
 | .ptr k _ => XL sl k xs
 | .prow _ _ _ _ => false
 | _ => true
def Zh8 (sl : Sl) (xs : List Opd) : List Opd → Bool
 | [] => true
 | y :: r => Zd8 sl xs (evO sl y) && Zh8 sl xs r
def JM (sl : Sl) (a : COp) : AV → Bool
 | .nil => true
 | .tup [] => true
 | .own k => XL sl k (ZM a)
 | .ownv k _ _ => XL sl k (ZM a)
 | .sub k _ => XL sl k (ZM a)
 | _ => false
def seenSrc (sl : Sl) (a : COp) : AV → Bool
 | .own k => XL sl k (ZM a)
 | v => okV v
def JX (sl : Sl) (d : Option Nat) : COp → COp → Bool
 | .move _, _ => okD sl d
 | a, .store _ _ x _ => ZgQ sl a (Wy (evO sl x))
 | a, .append _ _ _ flat x y => JM sl a (evO sl x) && (flat || seenSrc sl a (evO sl y))
 | a, .call _ as => okL sl (ZM a) && (okD sl d && (okL sl as && Zh8 sl (ZM a) as))
 | _, _ => false
def ZkM (os : List CO) (sl : Sl) (p : Nat × Nat) : Bool := match os[p.1]?, os[p.2]? with
 | some a, some b => JX sl a.dst a.op b.op
 | _, _ => false
def JN (os : List CO) (sl : Sl) : List (Nat × Nat) → Bool
 | [] => true
 | p :: r => ZkM os sl p && JN os sl r
section
variable (C : Orc) (M : Zq)
noncomputable def ZfX (nx : Nat) : Nat → List CO → Sl → Hp → Option (Sl × Hp)
 | _, [], sl, hp => some (sl, hp)
 | i, o :: rest, sl, hp => bnd (Z7 sl o.guard) fun b =>
   if b then bnd (Vj (nx + 64 * i) o.dst sl hp (vop C M sl hp (nx + 64 * i) o.op)) fun r => ZfX nx (i + 1) rest r.1 r.2
   else ZfX nx (i + 1) rest (Zt sl o.dst (.tup [])) hp
def ZgR (c : Zf) : List Nat → Hp → List Nat → List Nat → Option Zf
 | [], [], [], [] => some c
 | _, _, _, _ => none
def Zd9 (e : Option Zf) : Option Zf := bnd e fun c => ZgR c c.gone c.eff.sets c.eff.dels c.eff.frz
noncomputable def W4 (nx i : Nat) (tail : Bool) (o : COp) (sl : Sl) (hp : Hp) : Option Zf :=
 if tail then vop C M sl hp (nx + 64 * i) o else Zd9 (vop C M sl hp (nx + 64 * i) o)
noncomputable def JC (nx : Nat) : Nat → Bool → List CO → Sl → Hp → Option (Sl × Hp)
 | _, _, [], sl, hp => some (sl, hp)
 | i, t, o :: rest, sl, hp => bnd (Z7 sl o.guard) fun b =>
   if b then bnd (Vj (nx + 64 * i) o.dst sl hp (W4 C M nx i (CO.starts o) o.op sl hp)) fun r => JC nx (i + 1) t rest r.1 r.2
   else JC nx (i + 1) t rest (Zt sl o.dst (.tup [])) hp
def ZjL {α : Type} : List (Nat × α) → List Nat
 | [] => []
 | (k, _) :: r => k :: ZjL r
def only {α : Type} (K : List Nat) : List (Nat × α) → List (Nat × α)
 | [] => []
 | (k, v) :: r => if K.contains k then (k, v) :: only K r else only K r
def WU : Nat → List Zr → Hp
 | _, [] => []
 | k, o :: r => WU (k + 1) r ++ [(k, o)]
def ZoQ : Sl → List Nat
 | [] => []
 | (_, v) :: r => ZF v ++ ZoQ r
def ZaV : Option Zr → Bool
 | some _ => true
 | none => false
def Zfl (hp : Hp) (ids : List Nat) (i : Nat) : Bool := ids.contains i && ZaV (lkp hp i)
def Zh9 (hp : Hp) (ids : List Nat) : List Nat → List Nat
 | [] => []
 | i :: r => if Zfl hp ids i then Zh9 hp ids r else i :: Zh9 hp ids r
def ZfY (hp : Hp) (ids : List Nat) (v : AV) : AV := ren (WY ids) (kill (Zh9 hp ids (ZF v)) v)
def Zia (hp : Hp) (ids : List Nat) (o : Zr) : Zr := ZmT (WY ids) (Ye (Zh9 hp ids (ZbO o)) o)
def Zu0 : Option Zr → List Nat
 | some o => ZbO o
 | none => []
def W3 (hp : Hp) : List Nat → List Nat
 | [] => []
 | id :: r => Zu0 (lkp hp id) ++ W3 hp r
def U4 (K : List Nat) (st : St) : St :=
 let sl := only K st.sl
 let ids := QT st.hp (XE st.hp) (ZoQ sl ++ W3 st.hp (List.range st.m)) (List.range st.m)
 { sl := ZiS (ZfY st.hp ids) sl, hp := WU 0 ((ZdW st.hp ids).map (Zia st.hp ids)), nx := ids.length, m := st.m }
def JD (f : St → Option (Ex × St)) (K : List Nat) : Nat → St → Option (Ex × St)
 | 0, _ => none
 | n + 1, st => match f (U4 K st) with
  | some (.normal, st') => JD f K n st'
  | r => r
def andThen (r : Option (Ex × St)) (k : St → Option (Ex × St)) : Option (Ex × St) := match r with
 | some (.normal, st) => k st
 | r => r
def Zib (v : AV) (a b : Option (Ex × St)) : Option (Ex × St) := match v with
 | .d (.bool t) => if t then a else b
 | _ => none
def Zg8 (id : Nat) (r : Option (Ex × St)) : Option (Ex × St) := match r with
 | some (.exit j, st) => if j = id then some (.normal, st) else some (.exit j, st)
 | r => r
def ZoR (ops : List CO) (ps : List (Nat × Nat)) (r : Option (Sl × Hp)) : Option (Sl × Hp) := bnd r fun r => if JN ops r.1 ps then some r else none
def ZkN (m nx : Nat) (r : Option (Sl × Hp)) : Option (Ex × St) := bnd r fun r => some (.normal, { sl := r.1, hp := r.2, nx := nx, m := m })
def Zmn (K : List Nat) (r : Option (Ex × St)) : Option (Ex × St) := match r with
 | some q => some (q.1, { q.2 with sl := only K q.2.sl })
 | none => none
def ZvD (nx n j : Nat) : Option Zr → Option Zr
 | some (.deep s k xs _) => bnd (ZkD xs n j) fun _ => some (.deep s k xs (some (nx, n, j)))
 | _ => none
def Zfm (id : Nat) (i : Opd) (j : Nat) (st : St) : Option St := bnd (idx (evO st.sl i)) fun n => if 0 ≤ n then bnd (ZvD st.nx n.toNat j (lkp st.hp id)) fun o => some { st with hp := ins st.hp id o, nx := st.nx + 64 } else none
def Zsa (st : St) : St := { st with hp := ZiS Zd0 st.hp }
noncomputable def ZI (N : Nat) : Zb → St → Option (Ex × St)
 | .skip, st => some (.normal, st)
 | .region n none ops, st => ZkN st.m (st.nx + 64 * n) (ZfX C M st.nx 0 ops st.sl st.hp)
 | .region n (some ps) ops, st => ZkN st.m (st.nx + 64 * n) (ZoR ops ps (JC C M st.nx 0 false ops st.sl st.hp))
 | .seq a b, st => andThen (ZI N a st) (ZI N b)
 | .cond c a b, st => Zib (evO st.sl c) (ZI N a st) (ZI N b st)
 | .block id c, st => Zg8 id (ZI N c st)
 | .loop c, st => JD (ZI N c) (ZjL st.sl) N st
 | .exit id, st => some (.exit id, st)
 | .ret, st => some (.ret, st)
 | .keep K c, st => Zmn K (ZI N c st)
 | .stuck, _ => none
 | .link id i j c, st => bnd (Zfm id i j st) (ZI N c)
 | .melt c, st => ZI N c (Zsa st)
def ZmV (st : St) : Zp1 → Option AV
 | .tmp t => some (gs st.sl t)
 | .cell a g s => Jz st.hp g s (gs st.sl a)
def VS (m : Nat) (hp : Hp) (v : AV) : AV × List Zr :=
 let ids := QT hp (XE hp) (ZF v ++ W3 hp (List.range m)) (List.range m)
 (ZfY hp ids v, (ZdW hp ids).map (Zia hp ids))
def ZvE : AV → Bool
 | .tup _ => true
 | _ => false
def ZjM : List AV → Bool
 | [] => false
 | v :: r => ZvE v || ZjM r
def ZcA : List AV → AV
 | [v] => v
 | vs => if ZjM vs then .junk else .tup vs
def Uu : Nat → List AV → Sl
 | _, [] => []
 | k, v :: r => Uu (k + 1) r ++ [(k, v)]
def Zcr (m : Nat) (rs : List Zp1) (r : Option (Ex × St)) : Option (AV × List Zr) := match r with
 | some (.normal, st) => bnd (QP (ZmV st) rs) fun vs => some (VS m st.hp (ZcA vs))
 | some (.ret, st) => bnd (QP (ZmV st) rs) fun vs => some (VS m st.hp (ZcA vs))
 | _ => none
noncomputable def ZkO (N : Nat) (fn : ZC) (as : List AV) (h : List Zr) : Option (AV × List Zr) :=
 if as.length ≤ fn.nt then Zcr h.length fn.res (ZI C M N fn.body { sl := Uu 0 as, hp := WU 0 h, nx := h.length, m := h.length }) else none
end
inductive Fn where
 | text (f : ZC)
 | prim (p : List AV → List Zr → Option (AV × List Zr))
abbrev Fns := Nat → Option Fn
noncomputable def ZgS (C : Orc) (M : Zq) (N : Nat) (as : List AV) (h : List Zr) : Option Fn → Option (AV × List Zr)
 | some (.text f) => ZkO C M N f as h
 | some (.prim p) => p as h
 | none => none
noncomputable def Qp (X : Fns) (M : Zq) : Nat → Orc
 | 0, _, _, _ => none
 | n + 1, f, as, h => ZgS (Qp X M n) M n as h (X f)
open Classical in
noncomputable def lim {α : Type} (x : Nat → Option α) : Option α := if h : ∃ r, ∃ n, x n = some r then some h.choose else none
def ZwF {α : Type} (x : Nat → Option α) : Prop := ∀ n r, x n = some r → x (n + 1) = some r
theorem ZwF.le {α : Type} {x : Nat → Option α} (h : ZwF x) {n m : Nat} {r : α} (hr : x n = some r) (hnm : n ≤ m) : x m = some r := by
 induction hnm with
 | refl => exact hr
 | step _ ih => exact h _ _ ih
theorem ZjN {α : Type} {x : Nat → Option α} (h : ZwF x) {n : Nat} {r : α} (hr : x n = some r) : lim x = some r := by
 have he : ∃ r, ∃ n, x n = some r := ⟨r, n, hr⟩
 unfold lim
 rw [dif_pos he]
 obtain ⟨m, hm⟩ := he.choose_spec
 have h1 := h.le hm (Nat.le_max_left m n)
 have h2 := h.le hr (Nat.le_max_right m n)
 rw [h1] at h2
 exact h2
theorem Zic {α : Type} {x : Nat → Option α} {r : α} (hr : lim x = some r) : ∃ n, x n = some r := by
 unfold lim at hr
 split at hr
 ·rename_i h
  obtain ⟨n, hn⟩ := h.choose_spec
  exact ⟨n, by rw [hn]; exact hr⟩
 ·cases hr
def Orc.le (C C' : Orc) : Prop := ∀ f as h r, C f as h = some r → C' f as h = some r
section
variable {M : Zq} {C C' : Orc}
theorem Zcs {α β : Type} {x x' : Option α} {f f' : α → Option β} {r : β} (hx : ∀ a, x = some a → x' = some a) (hf : ∀ a, f a = some r → f' a = some r) (h : bnd x f = some r) : bnd x' f' = some r := by
 obtain ⟨a, h1, h2⟩ := Za h
 rw [hx a h1]; exact hf a h2
theorem Zx1 (h : C.le C') {m : Nat → Bool} {hp : Hp} {base f : Nat} {avs : List AV} {r : Zf}
  (hr : Zcy C m hp base f avs = some r) : Zcy C' m hp base f avs = some r := by
 unfold Zcy at hr ⊢
 refine Zcs (fun _ h => h) (fun as hr => ?_) hr
 unfold Zel at hr ⊢
 by_cases hc : (as.flatMap ZF).all (QT hp (XE hp) (as.flatMap ZF) []).contains ∧ ¬ (Vv avs as).any (QT hp (XE hp) (as.flatMap ZF) []).contains ∧ ZcM hp (as.flatMap ZbR) (QT hp (XE hp) (as.flatMap ZF) []) = true
 ·rw [if_pos hc] at hr ⊢
  exact Zcs (fun q hq => h _ _ _ _ hq) (fun _ h => h) hr
 ·rw [if_neg hc] at hr; cases hr
theorem Zsb (h : C.le C') {sl : Sl} {hp : Hp} {base : Nat} {o : COp} {r : Zf} (hr : vop C M sl hp base o = some r) :
  vop C' M sl hp base o = some r := by
 cases o with
 | call f as =>
  simp only [vop] at hr ⊢
  cases hg : evO sl f <;> simp only [hg, Zd1] at hr ⊢ <;> first | exact Zx1 h hr | exact hr
 | _ => exact hr
theorem Zsc (h : C.le C') (nx : Nat) : ∀ (l : List CO) (i : Nat) (sl : Sl) (hp : Hp) (r : Sl × Hp),
  ZfX C M nx i l sl hp = some r → ZfX C' M nx i l sl hp = some r := by
 intro l
 induction l with
 | nil => intro i sl hp r hr; exact hr
 | cons o rest ih =>
  intro i sl hp r hr
  simp only [ZfX] at hr ⊢
  refine Zcs (fun _ h => h) (fun b hr => ?_) hr
  cases b
  ·simp only [Bool.false_eq_true, if_false] at hr ⊢
   exact ih _ _ _ _ hr
  ·simp only [if_true] at hr ⊢
   refine Zcs (fun q hq => ?_) (fun q hq => ih _ _ _ _ hq) hr
   unfold Vj at hq ⊢
   exact Zcs (fun e he => Zsb h he) (fun _ h => h) hq
theorem ZvF (h : C.le C') {nx i : Nat} {t : Bool} {o : COp} {sl : Sl} {hp : Hp} {e : Zf} (he : W4 C M nx i t o sl hp = some e) :
  W4 C' M nx i t o sl hp = some e := by
 unfold W4 at he ⊢
 cases t
 ·simp only [Bool.false_eq_true, if_false, Zd9] at he ⊢
  exact Zcs (fun _ hv => Zsb h hv) (fun _ h => h) he
 ·simp only [if_true] at he ⊢
  exact Zsb h he
theorem ZkP (h : C.le C') (nx : Nat) : ∀ (l : List CO) (i : Nat) (t : Bool) (sl : Sl) (hp : Hp) (r : Sl × Hp),
  JC C M nx i t l sl hp = some r → JC C' M nx i t l sl hp = some r := by
 intro l
 induction l with
 | nil => intro i t sl hp r hr; exact hr
 | cons o rest ih =>
  intro i t sl hp r hr
  simp only [JC] at hr ⊢
  refine Zcs (fun _ h => h) (fun b hr => ?_) hr
  cases b
  ·simp only [Bool.false_eq_true, if_false] at hr ⊢
   exact ih _ _ _ _ _ hr
  ·simp only [if_true] at hr ⊢
   refine Zcs (fun q hq => ?_) (fun q hq => ih _ _ _ _ _ hq) hr
   unfold Vj at hq ⊢
   exact Zcs (fun e he => ZvF h he) (fun _ h => h) hq
theorem ZkQ {f g : St → Option (Ex × St)} (h : ∀ st r, f st = some r → g st = some r) (K : List Nat) :
  ∀ (n m : Nat) (st : St) (r : Ex × St), n ≤ m → JD f K n st = some r → JD g K m st = some r := by
 intro n
 induction n with
 | zero => intro m st r _ hr; simp [JD] at hr
 | succ n ih =>
  intro m st r hm hr
  cases m with
  | zero => omega
  | succ m =>
   simp only [JD] at hr ⊢
   cases hf : f (U4 K st) with
   | none => simp [hf] at hr
   | some q =>
    rw [hf] at hr
    rw [h _ _ hf]
    obtain ⟨e, st'⟩ := q
    cases e with
    | normal => exact ih m st' r (by omega) hr
    | exit id => exact hr
    | ret => exact hr
theorem Zm4 (h : C.le C') {N N' : Nat} (hN : N ≤ N') : ∀ (c : Zb) (st : St) (r : Ex × St),
  ZI C M N c st = some r → ZI C' M N' c st = some r := by
 intro c
 induction c with
 | skip => intro st r hr; simpa [ZI] using hr
 | region n draw ops =>
  intro st r hr
  cases draw
  ·simp only [ZI, ZkN] at hr ⊢
   exact Zcs (fun q hq => Zsc h _ _ _ _ _ _ hq) (fun _ h => h) hr
  ·simp only [ZI, ZkN, ZoR] at hr ⊢
   exact Zcs (fun q hq => Zcs (fun q hq => ZkP h _ _ _ _ _ _ _ hq) (fun _ h => h) hq) (fun _ h => h) hr
 | seq a b iha ihb =>
  intro st r hr
  simp only [ZI] at hr ⊢
  cases ha : ZI C M N a st with
  | none => simp [ha, andThen] at hr
  | some q =>
   rw [ha] at hr
   rw [iha _ _ ha]
   obtain ⟨e, st'⟩ := q
   cases e with
   | normal => exact ihb _ _ hr
   | exit id => exact hr
   | ret => exact hr
 | cond c a b iha ihb =>
  intro st r hr
  simp only [ZI, Zib] at hr ⊢
  split at hr
  ·rename_i t ht
   cases t
   ·simp only [Bool.false_eq_true, if_false] at hr ⊢; exact ihb _ _ hr
   ·simp only [if_true] at hr ⊢; exact iha _ _ hr
  ·cases hr
 | block id c ih =>
  intro st r hr
  simp only [ZI] at hr ⊢
  cases hc : ZI C M N c st with
  | none => simp [hc, Zg8] at hr
  | some q => rw [hc] at hr; rw [ih _ _ hc]; exact hr
 | loop c ih =>
  intro st r hr
  simp only [ZI] at hr ⊢
  exact ZkQ ih _ _ _ _ _ hN hr
 | exit id => intro st r hr; simpa [ZI] using hr
 | ret => intro st r hr; simpa [ZI] using hr
 | keep K c ih =>
  intro st r hr
  simp only [ZI] at hr ⊢
  cases hc : ZI C M N c st with
  | none => simp [hc, Zmn] at hr
  | some q => rw [hc] at hr; rw [ih _ _ hc]; exact hr
 | stuck => intro st r hr; simp [ZI] at hr
 | link id i j c ih =>
  intro st r hr
  simp only [ZI] at hr ⊢
  obtain ⟨st', h1, h2⟩ := Za hr
  rw [h1, Zj]
  exact ih st' r h2
 | melt c ih =>
  intro st r hr
  simp only [ZI] at hr ⊢
  exact ih _ r hr
theorem Zx2 (h : C.le C') {N N' : Nat} (hN : N ≤ N') {f : ZC} {as : List AV} {hh : List Zr} {r : AV × List Zr}
  (hr : ZkO C M N f as hh = some r) : ZkO C' M N' f as hh = some r := by
 unfold ZkO at hr ⊢
 by_cases hl : as.length ≤ f.nt
 ·rw [if_pos hl] at hr ⊢
  cases hv : ZI C M N f.body { sl := Uu 0 as, hp := WU 0 hh, nx := hh.length, m := hh.length } with
  | none => simp [hv, Zcr] at hr
  | some q => rw [hv] at hr; rw [Zm4 h hN _ _ _ hv]; exact hr
 ·rw [if_neg hl] at hr; cases hr
end
section
variable (X : Fns) (M : Zq)
theorem ZlJ : ∀ n, (Qp X M n).le (Qp X M (n + 1)) := by
 intro n
 induction n with
 | zero => intro f as h r hr; simp [Qp] at hr
 | succ n ih =>
  intro f as h r hr
  rw [Qp] at hr ⊢
  cases hf : X f with
  | none => rw [hf] at hr; cases hr
  | some g =>
   rw [hf] at hr
   cases g with
   | text g => exact Zx2 ih (Nat.le_succ n) hr
   | prim p => exact hr
noncomputable def Zh (f : Nat) (as : List AV) (h : List Zr) : Option (AV × List Zr) := lim fun n => Qp X M n f as h
noncomputable def QV (c : Zb) (st : St) : Option (Ex × St) := lim fun n => ZI (Qp X M n) M n c st
theorem Zes (f : Nat) (as : List AV) (h : List Zr) : ZwF fun n => Qp X M n f as h := fun n r hr => ZlJ X M n f as h r hr
theorem ZgT (n : Nat) : (Qp X M n).le (Zh X M) := fun f as h _ hr => ZjN (Zes X M f as h) hr
theorem ZjO (c : Zb) (st : St) : ZwF fun n => ZI (Qp X M n) M n c st := fun n r hr => Zm4 (ZlJ X M n) (Nat.le_succ n) c st r hr
theorem Zea {n m : Nat} (h : n ≤ m) : (Qp X M n).le (Qp X M m) := fun f as hh _ hr => (Zes X M f as hh).le hr h
theorem ZtG {m : Nat → Bool} {hp : Hp} {base f : Nat} {avs : List AV} {r : Zf}
  (hr : Zcy (Zh X M) m hp base f avs = some r) : ∃ n, Zcy (Qp X M n) m hp base f avs = some r := by
 unfold Zcy at hr ⊢
 obtain ⟨as, has, hr⟩ := Za hr
 simp only [has, Zj]
 unfold Zel at hr ⊢
 by_cases hc : (as.flatMap ZF).all (QT hp (XE hp) (as.flatMap ZF) []).contains ∧ ¬ (Vv avs as).any (QT hp (XE hp) (as.flatMap ZF) []).contains ∧ ZcM hp (as.flatMap ZbR) (QT hp (XE hp) (as.flatMap ZF) []) = true
 ·rw [if_pos hc] at hr
  obtain ⟨q, hq, hr⟩ := Za hr
  obtain ⟨n, hn⟩ := Zic hq
  refine ⟨n, ?_⟩
  rw [if_pos hc, hn]
  exact hr
 ·rw [if_neg hc] at hr; cases hr
theorem ZlK {sl : Sl} {hp : Hp} {base : Nat} {o : COp} {r : Zf} (hr : vop (Zh X M) M sl hp base o = some r) :
  ∃ n, vop (Qp X M n) M sl hp base o = some r := by
 cases o with
 | call f as =>
  simp only [vop] at hr ⊢
  cases hg : evO sl f <;> simp only [hg, Zd1] at hr ⊢ <;> first | exact ZtG X M hr | exact ⟨0, hr⟩
 | _ => exact ⟨0, hr⟩
theorem Zu1 (nx : Nat) : ∀ (l : List CO) (i : Nat) (sl : Sl) (hp : Hp) (r : Sl × Hp),
  ZfX (Zh X M) M nx i l sl hp = some r → ∃ n, ZfX (Qp X M n) M nx i l sl hp = some r := by
 intro l
 induction l with
 | nil => intro i sl hp r hr; exact ⟨0, hr⟩
 | cons o rest ih =>
  intro i sl hp r hr
  simp only [ZfX] at hr ⊢
  obtain ⟨b, hb, hr⟩ := Za hr
  simp only [hb, Zj]
  cases b
  ·simp only [Bool.false_eq_true, if_false] at hr ⊢
   exact ih _ _ _ _ hr
  ·simp only [if_true] at hr ⊢
   obtain ⟨q, hq, hr⟩ := Za hr
   unfold Vj at hq
   obtain ⟨e, he, hq⟩ := Za hq
   obtain ⟨n1, h1⟩ := ZlK X M he
   obtain ⟨n2, h2⟩ := ih _ _ _ _ hr
   refine ⟨max n1 n2, ?_⟩
   unfold Vj
   rw [Zsb (Zea X M (Nat.le_max_left n1 n2)) h1, Zj, hq, Zj]
   exact Zsc (Zea X M (Nat.le_max_right n1 n2)) _ _ _ _ _ _ h2
theorem Zu2 {nx i : Nat} {t : Bool} {o : COp} {sl : Sl} {hp : Hp} {e : Zf} (he : W4 (Zh X M) M nx i t o sl hp = some e) :
  ∃ n, W4 (Qp X M n) M nx i t o sl hp = some e := by
 unfold W4 at he ⊢
 cases t
 ·simp only [Bool.false_eq_true, if_false, Zd9] at he ⊢
  obtain ⟨e', he', h2⟩ := Za he
  obtain ⟨n, hn⟩ := ZlK X M he'
  exact ⟨n, by rw [hn]; exact h2⟩
 ·simp only [if_true] at he ⊢
  exact ZlK X M he
theorem ZtH (nx : Nat) : ∀ (l : List CO) (i : Nat) (t : Bool) (sl : Sl) (hp : Hp) (r : Sl × Hp),
  JC (Zh X M) M nx i t l sl hp = some r → ∃ n, JC (Qp X M n) M nx i t l sl hp = some r := by
 intro l
 induction l with
 | nil => intro i t sl hp r hr; exact ⟨0, hr⟩
 | cons o rest ih =>
  intro i t sl hp r hr
  simp only [JC] at hr ⊢
  obtain ⟨b, hb, hr⟩ := Za hr
  simp only [hb, Zj]
  cases b
  ·simp only [Bool.false_eq_true, if_false] at hr ⊢
   exact ih _ _ _ _ _ hr
  ·simp only [if_true] at hr ⊢
   obtain ⟨q, hq, hr⟩ := Za hr
   unfold Vj at hq
   obtain ⟨e, he, hq⟩ := Za hq
   obtain ⟨n1, h1⟩ := Zu2 X M he
   obtain ⟨n2, h2⟩ := ih _ _ _ _ _ hr
   refine ⟨max n1 n2, ?_⟩
   unfold Vj
   rw [ZvF (Zea X M (Nat.le_max_left n1 n2)) h1, Zj, hq, Zj]
   exact ZkP (Zea X M (Nat.le_max_right n1 n2)) _ _ _ _ _ _ _ h2
theorem XQ {c : Zb} {st : St} {n : Nat} {r : Ex × St} (h : ZI (Qp X M n) M n c st = some r) : QV X M c st = some r :=
 ZjN (ZjO X M c st) h
theorem VT {α : Type} {x : Nat → Option α} (h : ∀ n, x n = none) : lim x = none := by
 cases hx : lim x with
 | none => rfl
 | some r => obtain ⟨n, hn⟩ := Zic hx; rw [h n] at hn; cases hn
theorem Zu3 (st : St) : QV X M .skip st = some (.normal, st) := XQ X M (n := 0) (by simp [ZI])
theorem Zu4 (id : Nat) (st : St) : QV X M (.exit id) st = some (.exit id, st) := XQ X M (n := 0) (by simp [ZI])
theorem ZwG (st : St) : QV X M .ret st = some (.ret, st) := XQ X M (n := 0) (by simp [ZI])
theorem Zsd (n : Nat) (ops : List CO) (st : St) :
  QV X M (.region n none ops) st = ZkN st.m (st.nx + 64 * n) (ZfX (Zh X M) M st.nx 0 ops st.sl st.hp) := by
 cases h : ZfX (Zh X M) M st.nx 0 ops st.sl st.hp with
 | some r =>
  obtain ⟨k, hk⟩ := Zu1 X M _ _ _ _ _ _ h
  exact XQ X M (n := k) (by simp only [ZI, hk, ZkN, Zj])
 | none =>
  refine VT fun k => ?_
  simp only [ZI]
  cases hn : ZfX (Qp X M k) M st.nx 0 ops st.sl st.hp with
  | none => rfl
  | some r => rw [Zsc (ZgT X M k) _ _ _ _ _ _ hn] at h; cases h
theorem Zu5 (n : Nat) (ps : List (Nat × Nat)) (ops : List CO) (st : St) :
  QV X M (.region n (some ps) ops) st = ZkN st.m (st.nx + 64 * n) (ZoR ops ps (JC (Zh X M) M st.nx 0 false ops st.sl st.hp)) := by
 cases h : JC (Zh X M) M st.nx 0 false ops st.sl st.hp with
 | some r =>
  obtain ⟨k, hk⟩ := ZtH X M _ _ _ _ _ _ _ h
  cases hs : ZoR ops ps (some r) with
  | none =>
   refine VT fun k' => ?_
   simp only [ZI]
   cases hn : JC (Qp X M k') M st.nx 0 false ops st.sl st.hp with
   | none => rfl
   | some r' =>
    have := ZkP (ZgT X M k') _ _ _ _ _ _ _ hn
    rw [h] at this
    cases this
    rw [hs]; rfl
  | some r' => exact XQ X M (n := k) (by simp only [ZI, hk, hs]; rfl)
 | none =>
  refine VT fun k => ?_
  simp only [ZI]
  cases hn : JC (Qp X M k) M st.nx 0 false ops st.sl st.hp with
  | none => rfl
  | some r => rw [ZkP (ZgT X M k) _ _ _ _ _ _ _ hn] at h; cases h
theorem ZaW {c : Zb} {st : St} {r : Ex × St} (h : QV X M c st = some r) : ∃ n, ∀ m, n ≤ m → ZI (Qp X M m) M m c st = some r := by
 obtain ⟨n, hn⟩ := Zic h
 exact ⟨n, fun m hm => (ZjO X M c st).le hn hm⟩
theorem ZwH (a b : Zb) (st : St) : QV X M (.seq a b) st = andThen (QV X M a st) (QV X M b) := by
 cases ha : QV X M a st with
 | none =>
  refine VT fun n => ?_
  cases h : ZI (Qp X M n) M n a st with
  | none => simp [ZI, h, andThen]
  | some q => rw [XQ X M h] at ha; cases ha
 | some q =>
  obtain ⟨e, st'⟩ := q
  obtain ⟨n, hn⟩ := ZaW X M ha
  cases e with
  | normal =>
   simp only [andThen]
   cases hb : QV X M b st' with
   | none =>
    refine VT fun k => ?_
    cases h : ZI (Qp X M k) M k (.seq a b) st with
    | none => rfl
    | some q =>
     have h1 := (ZjO X M (.seq a b) st).le h (Nat.le_max_left k n)
     simp only [ZI, hn _ (Nat.le_max_right k n), andThen] at h1
     rw [XQ X M h1] at hb
     cases hb
   | some q =>
    obtain ⟨m, hm⟩ := ZaW X M hb
    refine XQ X M (n := max n m) ?_
    simp only [ZI, hn _ (Nat.le_max_left n m), andThen, hm _ (Nat.le_max_right n m)]
  | exit id => exact XQ X M (n := n) (by simp only [ZI, hn _ (Nat.le_refl n), andThen])
  | ret => exact XQ X M (n := n) (by simp only [ZI, hn _ (Nat.le_refl n), andThen])
theorem Zu6 (c : Opd) (a b : Zb) (st : St) :
  QV X M (.cond c a b) st = Zib (evO st.sl c) (QV X M a st) (QV X M b st) := by
 unfold Zib
 split
 ·rename_i t h
  cases t
  ·simp only [Bool.false_eq_true, if_false, QV, ZI, h, Zib]
  ·simp only [if_true, QV, ZI, h, Zib]
 ·rename_i h
  refine VT fun n => ?_
  simp only [ZI, Zib]
theorem ZtI (id : Nat) (c : Zb) (st : St) : QV X M (.block id c) st = Zg8 id (QV X M c st) := by
 cases hc : QV X M c st with
 | none =>
  refine VT fun n => ?_
  cases h : ZI (Qp X M n) M n c st with
  | none => simp [ZI, h, Zg8]
  | some q => rw [XQ X M h] at hc; cases hc
 | some q =>
  obtain ⟨n, hn⟩ := ZaW X M hc
  cases hb : Zg8 id (some q) with
  | none =>
   obtain ⟨e, st'⟩ := q
   cases e <;> simp [Zg8] at hb
   split at hb <;> cases hb
  | some r => exact XQ X M (n := n) (by simp only [ZI, hn _ (Nat.le_refl n), hb])
theorem Zu7 (K : List Nat) (c : Zb) (st : St) : QV X M (.keep K c) st = Zmn K (QV X M c st) := by
 cases hc : QV X M c st with
 | none =>
  refine VT fun n => ?_
  cases h : ZI (Qp X M n) M n c st with
  | none => simp [ZI, h, Zmn]
  | some q => rw [XQ X M h] at hc; cases hc
 | some q =>
  obtain ⟨n, hn⟩ := ZaW X M hc
  exact XQ X M (n := n) (by simp only [ZI, hn _ (Nat.le_refl n), Zmn])
theorem Zu8 (id : Nat) (i : Opd) (j : Nat) (c : Zb) (st : St) : QV X M (.link id i j c) st = bnd (Zfm id i j st) (QV X M c) := by
 cases hl : Zfm id i j st with
 | none =>
  refine VT fun n => ?_
  simp only [ZI, hl]; rfl
 | some st' =>
  rw [Zj]
  cases hc : QV X M c st' with
  | none =>
   refine VT fun n => ?_
   cases h : ZI (Qp X M n) M n c st' with
   | none => simp only [ZI, hl, Zj, h]
   | some q => rw [XQ X M h] at hc; cases hc
  | some q =>
   obtain ⟨n, hn⟩ := ZaW X M hc
   exact XQ X M (n := n) (by simp only [ZI, hl, Zj, hn _ (Nat.le_refl n)])
theorem Zu9 (c : Zb) (st : St) : QV X M (.melt c) st = QV X M c (Zsa st) := by
 cases hc : QV X M c (Zsa st) with
 | none =>
  refine VT fun n => ?_
  cases h : ZI (Qp X M n) M n c (Zsa st) with
  | none => simp only [ZI, h]
  | some q => rw [XQ X M h] at hc; cases hc
 | some q =>
  obtain ⟨n, hn⟩ := ZaW X M hc
  exact XQ X M (n := n) (by simp only [ZI, hn _ (Nat.le_refl n)])
noncomputable def Zid (c : Zb) (K : List Nat) (st : St) : Option (Ex × St) := lim fun n => JD (ZI (Qp X M n) M n c) K n st
theorem Zet (c : Zb) (K : List Nat) (st : St) : ZwF fun n => JD (ZI (Qp X M n) M n c) K n st := fun n r hr =>
 ZkQ (fun _ _ h => Zm4 (ZlJ X M n) (Nat.le_succ n) c _ _ h) K n (n + 1) st r (Nat.le_succ n) hr
theorem Zva (c : Zb) (st : St) : QV X M (.loop c) st = Zid X M c (ZjL st.sl) st := by
 simp only [QV, Zid, ZI]
theorem ZtJ {c : Zb} {K : List Nat} {st st' : St} (h : QV X M c (U4 K st) = some (.normal, st')) :
  Zid X M c K st = Zid X M c K st' := by
 obtain ⟨n, hn⟩ := ZaW X M h
 cases hl : Zid X M c K st' with
 | none =>
  refine VT fun k => ?_
  cases hk : JD (ZI (Qp X M k) M k c) K k st with
  | none => rfl
  | some q =>
   have h1 := (Zet X M c K st).le hk (show k ≤ max k n + 1 by omega)
   simp only [JD] at h1
   rw [hn (max k n + 1) (by omega)] at h1
   simp only [] at h1
   have h2 := ZkQ (fun _ _ h => h) K (max k n) (max k n + 1) st' q (Nat.le_succ _) h1
   rw [show Zid X M c K st' = some q from ZjN (Zet X M c K st') h2] at hl
   cases hl
 | some q =>
  obtain ⟨m, hm⟩ := Zic hl
  refine ZjN (Zet X M c K st) (n := max n m + 1) ?_
  simp only [JD, hn (max n m + 1) (by omega)]
  exact ZkQ (fun _ _ h => Zm4 (Zea X M (show m ≤ max n m + 1 by omega)) (show m ≤ max n m + 1 by omega) c _ _ h) K m (max n m) st' q (by omega) hm
theorem ZoS {c : Zb} {K : List Nat} {st st' : St} {e : Ex} (he : e ≠ .normal) (h : QV X M c (U4 K st) = some (e, st')) :
  Zid X M c K st = some (e, st') := by
 obtain ⟨n, hn⟩ := ZaW X M h
 refine ZjN (Zet X M c K st) (n := n + 1) ?_
 simp only [JD, hn (n + 1) (by omega)]
 cases e with
 | normal => exact absurd rfl he
 | exit id => rfl
 | ret => rfl
theorem Zx3 {f : Nat} {as : List AV} {h : List Zr} {fn : ZC} {r : AV × List Zr} (hx : X f = some (.text fn))
  (hl : as.length ≤ fn.nt) (hr : Zcr h.length fn.res (QV X M fn.body { sl := Uu 0 as, hp := WU 0 h, nx := h.length, m := h.length }) = some r) :
  Zh X M f as h = some r := by
 cases hv : QV X M fn.body { sl := Uu 0 as, hp := WU 0 h, nx := h.length, m := h.length } with
 | none => rw [hv] at hr; simp [Zcr] at hr
 | some q =>
  rw [hv] at hr
  obtain ⟨n, hn⟩ := ZaW X M hv
  refine ZjN (Zes X M f as h) (n := n + 1) ?_
  simp only [Qp, hx, ZgS, ZkO, hl, if_true, hn n (Nat.le_refl n)]
  exact hr
theorem ZoT {f : Nat} {as : List AV} {h : List Zr} {p : List AV → List Zr → Option (AV × List Zr)} {r : AV × List Zr} (hx : X f = some (.prim p)) (hp : p as h = some r) :
  Zh X M f as h = some r :=
 ZjN (Zes X M f as h) (n := 1) (by simp only [Qp, hx, ZgS, hp])
end
section
variable (P : Program)
def U5 (nt : Nat) : Code → Option Zb
 | .skip => some .skip
 | .region _ ops draw => bnd (QP (Zml P nt ops.toList) ops.toList) fun os => if draw then (if ZoP ops os then some (.region ops.toList.length (some (Zd6 ops os)) os) else some .stuck) else some (.region ops.toList.length none os)
 | .seq a b => bnd (U5 nt a) fun a => bnd (U5 nt b) fun b => some (.seq a b)
 | .cond c a b => bnd (Z6 c) fun c => bnd (U5 nt a) fun a => bnd (U5 nt b) fun b => some (.cond c a b)
 | .block id c => bnd (U5 nt c) fun c => some (.block id c)
 | .loop c => bnd (U5 nt c) fun c => some (.loop c)
 | .exit id => some (.exit id)
 | .ret => some .ret
 | _ => some .stuck
def ZiL : COp → COp
 | .buildDp s _ xs => .buildSl s xs
 | .asgDp s _ x => .assign (some s) x
 | .appDp s b flat x y => .append s b false flat x y
 | c => c
def ZlL : List CO → List CO
 | [] => []
 | o :: r => { o with op := ZiL o.op } :: ZlL r
def Zvb : Option (List (Nat × Nat)) → List CO → List CO
 | none, ops => ZlL ops
 | some _, ops => ops
def Vk : Zb → Zb
 | .keep _ c => Vk c
 | .seq a b => .seq (Vk a) (Vk b)
 | .cond c a b => .cond c (Vk a) (Vk b)
 | .block id c => .block id (Vk c)
 | .loop c => .loop (Vk c)
 | .region n d ops => .region n d (Zvb d ops)
 | .link _ _ _ c => Vk c
 | .melt c => Vk c
 | .skip => .skip
 | .exit id => .exit id
 | .ret => .ret
 | .stuck => .stuck
def ZlM (cf : ZC) : ZC := { nt := cf.nt, res := cf.res, body := Vk cf.body }
def cRes : ResultVar → Option Zp1
 | .tmp t => some (.tmp t)
 | .cell a t => bnd (ZfR P t) fun g => some (.cell a g (P.cellsOf t))
def cFun (fn : Func) : Option ZC := bnd fn.body fun c => bnd (U5 P fn.ntmps c) fun b => bnd (QP (cRes P) fn.results.toList) fun rs => some { nt := fn.ntmps, res := rs, body := b }
end
end Go.Abs
