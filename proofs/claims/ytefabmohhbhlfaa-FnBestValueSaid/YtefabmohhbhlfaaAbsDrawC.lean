/- Own text. -/
import Derived.Test.YtefabmohhbhlfaaAbsDraw3
import Derived.Test.YtefabmohhbhlfaaAbsSound5
set_option linter.unusedVariables false
set_option linter.unusedSimpArgs false
namespace Go.Abs
open Go
theorem ZmL {v:AV} (h:okC v=true):okV v=true:=by
 cases v<;>first | exact h | cases h
theorem ZdG {g:List Nat} {v:AV} (h:okC (ZP g v)=true):ZP g v=v:=by
 cases v<;>simp only[ZP] at h ⊢ <;> first | rfl | (split at h<;>rename_i h' <;> first | (cases h;done) | rw[Kp h'])
theorem Zb8 {g:List Nat}:∀ {cs:List AV},ZjY (cs.map (ZP g))=true→cs.map (ZP g)=cs
 | [],_=>rfl
 | c :: cs,h=>by
  simp only[Ko,ZjY,Kb] at h ⊢;rw[ZdG h.1,Zb8 h.2]
theorem Jk {g:List Nat} {v:AV} (h:okV (ZD g v)=true):ZD g v=v:=by
 cases v with
 | agg cs=>simp only[ZD,okV] at h ⊢;rw[Zb8 h]
 | clo f cs=>simp only[ZD,okV,okC] at h;cases h
 | tup vs=>rfl
 | _=>
  simp only[ZD] at h ⊢;refine ZdG ?_;revert h;simp only[ZP]
  first | exact id | (split<;>first | exact id | (intro h;cases h))
theorem W6 {g:List Nat} {v:AV} (h:okV (kill g v)=true):kill g v=v:=by
 cases v with
 | tup vs=>
  cases vs with
  | nil=>rfl
  | cons x r=>simp only[kill,Ko,okV,okC] at h;cases h
 | _=>simp only[kill] at h ⊢;exact Jk h
theorem ZkF {g:List Nat} {v:AV} (hn:∀ id∈Zf v,id∉g):ZP g v=v:=by
 cases v<;>simp only[ZP]<;>first | rfl | (rw[Kp];simpa [Zf] using hn)
theorem ZmM {g:List Nat} {v:AV} (h:okV v=true) (hn:∀ id∈Zm v,id∉g):kill g v=v:=by
 cases v with
 | tup vs=>
  cases vs with
  | nil=>rfl
  | cons x r=>simp only[okV,okC] at h;cases h
 | clo f cs=>simp only[okV,okC] at h;cases h
 | agg cs=>
  simp only[kill,ZD];congr 1
  rw[Kw (g:=id),Lm];intro c hc;exact ZkF fun id aa=>hn id (by simp only[Zm,Zn,Kr];exact⟨c,hc,aa⟩)
 | _=>simp only[kill,ZD];exact ZkF hn
theorem ZoQ {g:List Nat} {v:AV} (h:kill g v=v):∀ id∈Zm v,id∉g:=fun id aa=>(Zij g v id (by rw[h];exact aa)).2
theorem ZnH {g:List Nat} {c:AV} (h:okC c=true) (h1:ZP g c=c):ZD g c=c:=by
 cases c<;>simp only[ZD]<;>first | exact h1 | cases h
def WQ (g:List Nat):Option Zh→Option Zh→Prop
 | none,none=>True
 | some (.row s xs _ _),some (.row s' xs' _ _)=>s'=s∧xs'=xs
 | some (.box cs),some (.box cs')=>cs'=cs.map (ZD g)
 | some (.tree s n xs l),some (.tree s' n' xs' l')=>s'=s∧n'=n∧xs'=xs∧l'=Yl g l
 | some .gone,some .gone=>True
 | _,_=>False
theorem ZkG {g:List Nat} {b:Bool} (o:Option Zh):WQ g o ((o.map (QD g)).map fun o=>if b then XD o else o):=by
 cases o with
 | none=>trivial
 | some o=>cases o<;>cases b<;>exact(by first | exact⟨rfl,rfl⟩ | exact rfl | exact⟨rfl,rfl,rfl,rfl⟩ | exact trivial)
theorem Ziv {g:List Nat}:∀ {l:List AV} {ds:List D},UB l=some ds→l.map (ZD g)=l
 | [],ds,_=>rfl
 | v :: l,ds,h=>by
  simp only[UB] at h;obtain⟨x,h1,h⟩:=Za h;obtain⟨aa,h2,h⟩:=Za h;have:ZD g v=v:=by cases v<;>first | rfl | cases h1
  rw[Ko,this,Ziv h2]
theorem ZfZ {g:List Nat}:∀ {l:List AV} {ds:List D},UB (l.map (ZD g))=some ds→l.map (ZD g)=l
 | [],ds,_=>rfl
 | v :: l,ds,h=>by
  simp only[Ko,UB] at h;obtain⟨x,h1,h⟩:=Za h;obtain⟨aa,h2,h⟩:=Za h;have hv:ZD g v=v:=by
   refine Jk ?_;cases hk:ZD g v<;>rw[hk] at h1<;>first | rfl | cases h1
  rw[Ko,hv,ZfZ h2]
theorem Zat (l:List AV):(∃ ds,UB l=some ds∧Vs l=.d (.agg ds))∨(UB l=none∧(Vs l=.junk∨Vs l=.agg l)):=by
 unfold Vs;cases h:UB l with
 | some ds=>exact .inl ⟨ds,rfl,rfl⟩
 | none=>
  refine .inr ⟨rfl,?_⟩;unfold Y7;split
  ·rename_i h;cases h
  ·split
   ·exact .inl rfl
   ·exact .inr rfl
theorem ZcH:∀ {l:List AV},ZjY l=true→∀ c∈l,okC c=true
 | [],_,c,hc=>by simp at hc
 | x :: l,h,c,hc=>by
  simp only[ZjY,Kb] at h;rcases Ke.1 hc with rfl | hc
  ·exact h.1
  ·exact ZcH h.2 c hc
theorem ZnI {g:List Nat} {l:List AV} (h:okV (Vs l)=true) (hk:kill g (Vs l)=Vs l):l.map (ZD g)=l:=by
 rcases Zat l with ⟨ds,h1,h2⟩ | ⟨h1,h2 | h2⟩
 ·exact Ziv h1
 ·rw[h2] at h;cases h
 ·rw[h2] at h hk;simp only[kill,ZD,AV.agg.injEq] at hk;simp only[okV] at h;have hm:=ZcH h;have aa : ∀ c∈l,ZP g c=c:=by
   intro c hc;have:=Zb8 (g:=g) (cs:=l) (by rw[hk];exact h);exact ZdG (by
    have h3:ZP g c∈l.map (ZP g):=List.mem_map_of_mem hc;rw[hk] at h3;exact hm _ h3)
  rw[Kw (g:=id),Lm];intro c hc;exact ZnH (hm c hc) (aa c hc)
theorem ZnJ {g:List Nat} {l:List AV} (h:okV (Vs (l.map (ZD g)))=true):l.map (ZD g)=l:=by
 rcases Zat (l.map (ZD g)) with ⟨ds,h1,h2⟩ | ⟨h1,h2 | h2⟩
 ·exact ZfZ h1
 ·rw[h2] at h;cases h
 ·rw[h2] at h;simp only[okV] at h;have hm:=ZcH h;rw[Kw (g:=id),Lm];intro c hc;exact Jk (ZmL (hm _ (List.mem_map_of_mem hc)))
theorem ZlO {g:List Nat} {v:AV} (h:okV v=true) (hk:kill g v=v):ZD g v=v:=by
 cases v with
 | tup vs=>rfl
 | _=>simp only[kill] at hk;exact hk
theorem ZlP {g:List Nat} {v:AV} (h:okV v=true) (hk:ZD g v=v):kill g v=v:=by
 cases v with
 | tup vs=>
  cases vs with
  | nil=>rfl
  | cons x r=>simp only[okV,okC] at h;cases h
 | _=>simp only[kill];exact hk
theorem ZbL {α β:Type} (f:α→β) (l:List α) (a b:Nat):((l.map f).drop a).take b=((l.drop a).take b).map f:=by
 rw[← List.map_drop,← List.map_take]
theorem Zew (g:List Nat) (c:AV):ZcL (ZD g c)=ZD g (ZcL c):=by
 have aa:∀ v:AV,(∀ a b,v≠.bbuf a b)→ZcL v=v:=fun v h'=>by cases v<;>first | rfl | exact absurd rfl (h' _ _)
 by_cases h' : ∃ a b,c=.bbuf a b
 ·obtain⟨a,b,rfl⟩:=h';rfl
 ·have h2:∀ a b,c≠.bbuf a b:=fun a b e=>h' ⟨a,b,e⟩;rw[aa c h2,aa];exact fun a b e=>h2 a b ((Ve g c a b).1 e)
theorem ZkH {g:List Nat} {cs:List AV} {a:Bool} {s off:Nat} {v:AV} (h:Wp a s off (some (.box cs))=some v) (ho:okV v=true) (hk:kill g v=v):Wp a s off (some (.box (cs.map (ZD g))))=some v:=by
 unfold Wp at h ⊢;cases a with
 | true=>
  simp only[Kl] at h ⊢;split at h
  ·rename_i hl;cases h;rw[Kt (by simpa using hl),ZbL,ZnI ho hk]
  ·cases h
 | false=>
  simp only[Ka,Kj] at h ⊢;obtain⟨c,hc,rfl⟩:=Option.map_eq_some_iff.1 h;rw[KJ,hc];simp only[KK];rw[Zew,ZlO ho hk]
theorem ZkI {g:List Nat} {cs:List AV} {a:Bool} {s off:Nat} {v:AV} (h:Wp a s off (some (.box (cs.map (ZD g))))=some v) (ho:okV v=true):Wp a s off (some (.box cs))=some v∧kill g v=v:=by
 unfold Wp at h ⊢;cases a with
 | true=>
  simp only[Kl] at h ⊢;split at h
  ·rename_i hl;cases h;rw[ZbL] at ho ⊢;have he:=ZnJ ho;rw[he] at ho ⊢;refine⟨by rw[Kt (by simpa using hl)],?_⟩;rcases Zat ((cs.drop off).take s) with ⟨ds,h1,h2⟩ | ⟨h1,h2 | h2⟩
   ·rw[h2];rfl
   ·rw[h2] at ho;cases ho
   ·rw[h2] at ho ⊢;simp only[okV] at ho;have hm:=ZcH ho;simp only[kill,ZD,AV.agg.injEq];rw[Kw (g:=id),Lm];intro c hc;have h3:ZD g c=c:=by
     refine Jk ?_;have h4:ZD g c∈((cs.drop off).take s).map (ZD g):=List.mem_map_of_mem hc;rw[he] at h4;exact ZmL (hm _ h4)
    have:=hm c hc;cases c<;>first | exact h3 | cases this
  ·cases h
 | false=>
  simp only[Ka,Kj] at h ⊢;rw[KJ] at h;cases hc:cs[off]? with
  | none=>rw[hc] at h;cases h
  | some c=>
   rw[hc] at h;simp only[KK,Option.some.injEq] at h;rw[Zew] at h;have h3:ZD g (ZcL c)=ZcL c:=Jk (by rw[h];exact ho);rw[h3] at h;subst h;exact⟨rfl,ZlP ho h3⟩
theorem Zrm {g:List Nat} {o o' : Option Zh} (h:WQ g o o'):Vt o'=Vt o:=by
 cases o with
 | none=>cases o' with
  | none=>rfl
  | some o'=>cases h
 | some o=>cases o' with
  | none=>cases o<;>cases h
  | some o' =>
   have tr:∀ s n xs l,Vt (some (.tree s n xs (Yl g l)))=Vt (some (.tree s n xs l)):=by
    intro s n xs l;rcases l with _ | ⟨_ | nm,_⟩
    ·rfl
    ·rfl
    ·simp only[Yl];split<;>rfl
   cases o<;>cases o' <;> simp only[WQ] at h<;>first | (cases h;done) | rfl | (obtain⟨rfl,rfl⟩:=h;rfl) | (obtain⟨rfl,rfl,rfl,rfl⟩:=h;exact tr _ _ _ _)
theorem Wx {g:List Nat} {o o' : Option Zh} (h:WQ g o o'):(∃ s xs e f e' f',o=some (.row s xs e f)∧o'=some (.row s xs e' f'))∨(o=none∧o'=none)∨(∃ cs,o=some (.box cs)∧o'=some (.box (cs.map (ZD g))))∨(o=some .gone∧o'=some .gone)∨(∃ s n xs l,o=some (.tree s n xs l)∧o'=some (.tree s n xs (Yl g l))):=by
 cases o with
 | none=>cases o' with
  | none=>exact .inr (.inl ⟨rfl,rfl⟩)
  | some o'=>cases h
 | some o=>cases o' with
  | none=>cases o<;>cases h
  | some o' =>
   cases o with
   | box cs=>cases o' with
    | box cs'=>simp only[WQ] at h;subst h;exact .inr (.inr (.inl ⟨cs,rfl,rfl⟩))
    | row _ _ _ _=>cases h
    | gone=>cases h
    | tree _ _ _ _=>cases h
   | row s xs e f=>cases o' with
    | box cs'=>cases h
    | row s' xs' e' f'=>simp only[WQ] at h;obtain⟨rfl,rfl⟩:=h;exact .inl ⟨_,_,_,_,_,_,rfl,rfl⟩
    | gone=>cases h
    | tree _ _ _ _=>cases h
   | gone=>cases o' with
    | box cs'=>cases h
    | row _ _ _ _=>cases h
    | gone=>exact .inr (.inr (.inr (.inl ⟨rfl,rfl⟩)))
    | tree _ _ _ _=>cases h
   | tree s n xs l=>cases o' with
    | box cs'=>cases h
    | row _ _ _ _=>cases h
    | gone=>cases h
    | tree s' n' xs' l'=>simp only[WQ] at h;obtain⟨rfl,rfl,rfl,rfl⟩:=h;exact .inr (.inr (.inr (.inr ⟨_,_,_,_,rfl,rfl⟩)))
section
variable {g:List Nat} {o o' : Option Zh}
theorem ZjC (h:WQ g o o') (sz id n:Nat):UL sz id n o'=UL sz id n o:=by
 rcases Wx h with ⟨s,xs,e,f,e',f',rfl,rfl⟩ | ⟨rfl,rfl⟩ | ⟨cs,rfl,rfl⟩ | ⟨rfl,rfl⟩ | ⟨s,n,xs,l,rfl,rfl⟩<;>rfl
theorem ZhS (h:WQ g o o') (sz id off m n:Nat):Uc sz id off m n o'=Uc sz id off m n o:=by
 rcases Wx h with ⟨s,xs,e,f,e',f',rfl,rfl⟩ | ⟨rfl,rfl⟩ | ⟨cs,rfl,rfl⟩ | ⟨rfl,rfl⟩ | ⟨s,n,xs,l,rfl,rfl⟩<;>rfl
theorem ZhT (h:WQ g o o') (s id:Nat) (lo hi:Option AV):Ud s id lo hi o'=Ud s id lo hi o:=by
 rcases Wx h with ⟨s,xs,e,f,e',f',rfl,rfl⟩ | ⟨rfl,rfl⟩ | ⟨cs,rfl,rfl⟩ | ⟨rfl,rfl⟩ | ⟨s,n,xs,l,rfl,rfl⟩<;>rfl
theorem Zf0 (h:WQ g o o') (s id off n:Nat) (lo hi:Option AV):Wb s id off n lo hi o'=Wb s id off n lo hi o:=by
 rcases Wx h with ⟨s,xs,e,f,e',f',rfl,rfl⟩ | ⟨rfl,rfl⟩ | ⟨cs,rfl,rfl⟩ | ⟨rfl,rfl⟩ | ⟨s,n,xs,l,rfl,rfl⟩<;>rfl
theorem ZjD {i off:Nat} {l:Option (Option Nat×Nat×Nat)} {x:D} {v:AV} (h:VA i off l x=some v) (hk:kill g v=v):VA i off (Yl g l) x=some v:=by
 unfold VA at h ⊢;split at h
 ·unfold ZeF at h;split at h
  ·rename_i nm i' c;split at h
   ·rename_i hc;cases h;have:g.contains nm=false:=by
     cases hg:g.contains nm with
     | false=>rfl
     | true=>simp only[kill,ZD,ZP,hg,Kl] at hk;cases hk
    simp only[Yl,this,Ka,Kj,ZeF,hc,and_self,Kl]
   ·cases h
  ·cases h
 ·exact h
 ·cases h
theorem ZjE {i off:Nat} {l:Option (Option Nat×Nat×Nat)} {x:D} {v:AV} (h:VA i off (Yl g l) x=some v):VA i off l x=some v∧kill g v=v:=by
 unfold VA at h ⊢;split at h
 ·unfold ZeF at h;split at h
  ·rename_i nm i' c hl;split at h
   ·rename_i hc;cases h;unfold Yl at hl;split at hl
    ·rename_i ab q;split at hl
     ·cases hl
     ·rename_i hg;cases hl;simp only[Lz] at hg;exact⟨by simp only[ZeF,hc,and_self,Kl],by simp only[kill,ZD,ZP,hg,Ka,Kj]⟩
    ·rename_i aa;subst hl;exact absurd rfl (aa _ _)
   ·cases h
  ·cases h
 ·split at h
  ·rename_i hp;cases h;exact⟨by rw[Kt hp],rfl⟩
  ·cases h
 ·cases h
theorem ZcI {id:Nat} (h:WQ g o o') {a:Bool} {s sz i off:Nat} {v:AV}:(VC id a s sz i off o=some v→kill g v=v→VC id a s sz i off o'=some v)∧(VC id a s sz i off o'=some v→VC id a s sz i off o=some v∧kill g v=v):=by
 have aa:∀ {cs:List D},Ua a s off cs=some v→∃ d,v=.d d:=by
  intro cs h;unfold Ua at h;split at h
  ·split at h
   ·cases h;exact⟨_,rfl⟩
   ·cases h
  ·unfold asD at h;obtain⟨y,_,h⟩:=Za h;cases h;exact⟨_,rfl⟩
 rcases Wx h with ⟨s,xs,e,f,e',f',rfl,rfl⟩ | ⟨rfl,rfl⟩ | ⟨cs,rfl,rfl⟩ | ⟨rfl,rfl⟩ | ⟨s,n,xs,l,rfl,rfl⟩
 ·refine⟨fun h _=>h,fun h=>⟨h,?_⟩⟩;simp only[VC] at h;split at h
  ·obtain⟨x,_,h⟩:=Za h;unfold ZcM at h;split at h
   ·obtain⟨d,rfl⟩:=aa h;rfl
   ·cases h
  ·cases h
 ·exact⟨fun h _=>(by cases h),fun h=>(by cases h)⟩
 ·exact⟨fun h _=>(by cases h),fun h=>(by cases h)⟩
 ·exact⟨fun h _=>(by cases h),fun h=>(by cases h)⟩
 ·simp only[VC];split
  ·split
   ·exact⟨fun h _=>(by cases h),fun h=>(by cases h)⟩
   ·constructor
    ·intro hh hk;obtain⟨x,h1,hh⟩:=Za hh;rw[h1,Zc];exact ZjD hh hk
    ·intro hh;obtain⟨x,h1,hh⟩:=Za hh;rw[h1,Zc];exact ZjE hh
  ·exact⟨fun h _=>(by cases h),fun h=>(by cases h)⟩
end
section
variable {hp hp' : Hp} {g:List Nat}
def ZcJ (g:List Nat) (hp hp' : Hp) (v:AV):Prop:=∀ k∈Zm v,WQ g (lkp hp k) (lkp hp' k)
theorem ZoR {o o' : Option Zh} (h:WQ g o o'):Zfv o'=Zfv o:=by
 rcases Wx h with ⟨s,xs,e,f,e',f',rfl,rfl⟩ | ⟨rfl,rfl⟩ | ⟨cs,rfl,rfl⟩ | ⟨rfl,rfl⟩ | ⟨s,n,xs,l,rfl,rfl⟩<;>rfl
theorem Jl {v:AV} (h:ZcJ g hp hp' v):UV hp' v=UV hp v:=by
 cases v<;>simp only[UV]
 case d x=>cases x<;>rfl
 case own id=>rw[ZoR (h id (by simp[Zm,Zn,Zf]))]
theorem WG {v:AV} (h:ZcJ g hp hp' v) (sz n:Nat):Z9 hp' sz n v=Z9 hp sz n v:=by
 cases v<;>simp only[Z9]
 case d x=>cases x<;>rfl
 case own id=>rw[ZjC (h id (by simp[Zm,Zn,Zf]))]
 case ownv id off n=>rw[ZhS (h id (by simp[Zm,Zn,Zf]))]
theorem Zau {v:AV} (h:ZcJ g hp hp' v) (s:Nat) (lo hi:Option AV):X4 hp' s lo hi v=X4 hp s lo hi v:=by
 cases v<;>simp only[X4]
 case d x=>cases x<;>rfl
 case own id=>rw[ZhT (h id (by simp[Zm,Zn,Zf]))]
 case ownv id off n=>rw[Zf0 (h id (by simp[Zm,Zn,Zf]))]
theorem ZnK {x v:AV} (hs:ZcJ g hp hp' x) {a:Bool} {s:Nat} (h:YV hp a s x=some v) (ho:okV v=true) (hk:kill g v=v):YV hp' a s x=some v:=by
 cases x<;>simp only[YV] at h ⊢ <;> first | (cases h;done) | skip
 case ptr id off=>
  rcases Wx (hs id (by simp[Zm,Zn,Zf])) with ⟨_,_,_,_,_,_,e1,e2⟩ | ⟨e1,e2⟩ | ⟨cs,e1,e2⟩ | ⟨e1,e2⟩ | ⟨_,_,_,_,e1,e2⟩
  ·rw[e1] at h;cases h
  ·rw[e1] at h;cases h
  ·rw[e1] at h;rw[e2];exact ZkH h ho hk
  ·rw[e1] at h;cases h
  ·rw[e1] at h;cases h
 case prow id sz i off=>exact(ZcI (hs id (by simp[Zm,Zn,Zf]))).1 h hk
 case pim cs=>exact h
theorem ZoS {a:Bool} {s off:Nat} {cs:List D} {v:AV} (h:Ua a s off cs=some v):∃ d,v=.d d:=by
 unfold Ua at h;split at h
 ·split at h
  ·cases h;exact⟨_,rfl⟩
  ·cases h
 ·unfold asD at h;obtain⟨y,_,h⟩:=Za h;cases h;exact⟨_,rfl⟩
theorem ZnL {x v:AV} (hs:ZcJ g hp hp' x) {a:Bool} {s:Nat} (h:YV hp' a s x=some v) (ho:okV v=true):YV hp a s x=some v∧kill g v=v:=by
 cases x<;>simp only[YV] at h ⊢ <;> first | (cases h;done) | skip
 case ptr id off=>
  rcases Wx (hs id (by simp[Zm,Zn,Zf])) with ⟨_,_,_,_,_,_,e1,e2⟩ | ⟨e1,e2⟩ | ⟨cs,e1,e2⟩ | ⟨e1,e2⟩ | ⟨_,_,_,_,e1,e2⟩
  ·rw[e2] at h;cases h
  ·rw[e2] at h;cases h
  ·rw[e2] at h;rw[e1];exact ZkI h ho
  ·rw[e2] at h;cases h
  ·rw[e2] at h;cases h
 case prow id sz i off=>
  exact(ZcI (hs id (by simp[Zm,Zn,Zf]))).2 h
 case pim cs=>
  obtain⟨d,rfl⟩:=ZoS h;exact⟨h,rfl⟩
theorem Zex {x:AV} {d:D} {e:Bool} (h:WP hp x=some (d,e,[])) (hp' : Hp):WP hp' x=some (d,e,[]):=by
 cases x<;>simp only[WP] at h ⊢ <;> first | exact h | skip
 case own id=>obtain⟨q,_,h⟩:=Za h;simp at h
theorem Zey:∀ {xs:List AV} {d:List D} {e:Bool},X7 hp xs=some (d,e,[])→∀ hp' : Hp,X7 hp' xs=some (d,e,[])
 | [],d,e,h,hp'=>h
 | x :: xs,d,e,h,hp'=>by
  simp only[X7] at h ⊢;obtain⟨⟨d1,e1,l1⟩,h1,h⟩:=Za h;obtain⟨⟨d2,e2,l2⟩,h2,h⟩:=Za h;have hl:l1=[]∧l2=[]:=by
   simp only at h;split at h
   ·simp only[Option.some.injEq,Prod.mk.injEq,List.append_eq_nil_iff] at h;exact h.2.2
   ·cases h
  obtain⟨rfl,rfl⟩:=hl;rw[Zex h1 hp',Zc,Zey h2 hp',Zc];exact h
theorem ZlQ {x:AV} {d:D} {e:Bool} (h:give hp x=some (d,e,[])) (hp' : Hp):give hp' x=some (d,e,[]):=by
 cases x<;>simp only[give] at h ⊢ <;> first | exact Zex h hp' | skip
 case agg cs=>
  obtain⟨⟨d1,e1,l1⟩,h1,h⟩:=Za h;simp only[Option.some.injEq,Prod.mk.injEq] at h;obtain⟨rfl,rfl,rfl⟩:=h;rw[Zey h1 hp',Zc]
theorem ZbM:∀ {xs:List AV} {d:List D} {e:Bool},YG hp xs=some (d,e,[])→∀ hp' : Hp,YG hp' xs=some (d,e,[])
 | [],d,e,h,hp'=>h
 | x :: xs,d,e,h,hp'=>by
  simp only[YG] at h ⊢;obtain⟨⟨d1,e1,l1⟩,h1,h⟩:=Za h;obtain⟨⟨d2,e2,l2⟩,h2,h⟩:=Za h;have hl:l1=[]∧l2=[]:=by
   simp only at h;split at h
   ·simp only[Option.some.injEq,Prod.mk.injEq,List.append_eq_nil_iff] at h;exact h.2.2
   ·cases h
  obtain⟨rfl,rfl⟩:=hl;rw[ZlQ h1 hp',Zc,ZbM h2 hp',Zc];exact h
theorem ZbN {base s:Nat} {vs:List AV} {ce:Zb} (h:buildSl hp base s vs=some ce) (hf:ce.eff.frz=[]) (hp' : Hp) :
  buildSl hp' base s vs=some ce∧(ce.eff.val=.nil∨ce.eff.val=.own base)∧(∀ k o,(k,o)∈ce.eff.adds→∃ sz xs e f,o=.row sz xs e f):=by
 cases vs with
 | nil=>simp only[buildSl,Qg] at h ⊢;cases h;exact⟨rfl,.inl rfl,fun k o h=>by simp at h⟩
 | cons v vs=>
  simp only[buildSl] at h ⊢;obtain⟨⟨ds,e,l⟩,h1,h⟩:=Za h;unfold rowV at h;split at h
  ·rename_i hc;cases h;simp only at hf;subst hf;rw[ZbM h1 hp',Zc];refine⟨?_,.inr rfl,fun k o ho=>?_⟩
   ·unfold rowV;rw[Kt hc]
   ·simp at ho;obtain⟨rfl,rfl⟩:=ho;exact⟨_,_,_,_,rfl⟩
  ·cases h
end
theorem ZcK {C:Orc} {M:Zg} {sl:Sl} {hp hp' : Hp} {base:Nat} {c:COp} (hc:Yt c=true):vop C M sl hp base c=vop C M sl hp' base c:=by
 cases c<;>first | rfl | (simp[Yt] at hc)
section
variable {C:Orc} {M:Zg} {sl sl' : Sl} {hp hp' : Hp} {base:Nat} {g:List Nat}
theorem ZO {v:AV} {ce:Zb} (h:Qg v=some ce):ce.eff.adds=[]:=by cases h;rfl
theorem Qf {v:Option AV} {ce:Zb} (h:Yj v=some ce):ce.eff.adds=[]:=by obtain⟨v,_,h⟩:=Za h;exact ZO h
theorem Wy {v:Option AV} {ce:Zb} (h:Yj v=some ce):v=some ce.eff.val:=by obtain⟨v,rfl,h⟩:=Za h;cases h;rfl
theorem ZmN {v:Option AV} {ce:Zb} {w:Option AV} (h:Yj v=some ce) (hw:w=some ce.eff.val):Yj w=some ce:=by
 obtain⟨v,rfl,h⟩:=Za h;cases h;rw[hw];rfl
theorem ZlR {c:COp} (hc:Yt c=true) (hv:Zmb c=true) {ce:Zb} (h:vop C M sl hp base c=some ce):ce.eff.adds=[]:=by
 cases c<;>simp only[Yt,Zmb,Ka] at hc hv<;>simp only[vop] at h
 case stuck=>cases h
 case move x=>exact ZO h
 case pick c a b=>
  unfold ZaH at h;split at h
  ·split at h<;>exact ZO h
  ·cases h
 case build zs ps=>obtain⟨cs,_,h⟩:=Za h;exact ZO h
 case nilCheck x=>unfold Wc at h;split at h<;>first | exact ZO h | cases h
 case bin op eq x y=>
  unfold ZhX at h;split at h
  ·split at h
   ·exact Qf h
   ·cases h
  ·exact Qf h
 case un op x=>exact Qf h
 case eqA neg n x y=>
  unfold ZjM at h;split at h
  ·obtain⟨r,_,h⟩:=Za h;exact ZO h
  ·cases h
 case convI k x=>unfold Go.Abs.convI at h;split at h<;>first | exact ZO h | cases h
 case convS x=>unfold Go.Abs.convS at h;split at h<;>first | exact ZO h | cases h
 case sliceS x lo hi=>exact Qf h
 case shift off x=>unfold Ys at h;split at h<;>first | exact ZO h | cases h
 case part g s off x=>exact Qf h
 case iaA len s x i=>
  obtain⟨n,_,h⟩:=Za h;unfold Zgg at h;split at h
  ·unfold Ys at h;split at h<;>first | exact ZO h | cases h
  ·cases h
 case ixS x i=>
  obtain⟨n,_,h⟩:=Za h;unfold ZlW at h;split at h
  ·unfold ZkV at h;split at h
   ·obtain⟨b,_,h⟩:=Za h;exact ZO h
   ·cases h
  ·cases h
 case ixA g s len x i=>
  obtain⟨n,_,h⟩:=Za h;unfold Zn0 at h;split at h
  ·exact Qf h
  ·cases h
 case nth i x=>unfold ZkW at h;split at h<;>first | exact Qf h | cases h
 case lenS x=>obtain⟨n,_,h⟩:=Za h;exact ZO h
 case min x y=>unfold ZeG at h;split at h<;>first | (split at h<;>first | exact ZO h | cases h) | cases h
 case max x y=>unfold ZeH at h;split at h<;>first | (split at h<;>first | exact ZO h | cases h) | cases h
theorem Zez {c:AV} (h:U3 c=true):ZD g c=c:=by cases c<;>first | rfl | cases h
theorem JJ:∀ {cs:List AV},XO cs=true→∀ c∈cs,U3 c=true
 | [],_,c,hc=>by simp at hc
 | x :: l,h,c,hc=>by
  simp only[XO,Kb] at h;rcases Ke.1 hc with rfl | hc
  ·exact h.1
  ·exact JJ h.2 c hc
theorem ZdH:∀ (slc:List (Option Nat)) (cs:List AV) (b:Nat),(∀ c∈(mat slc cs b).1,c∈cs∨∃ k o,c=.own k∧(k,o)∈(mat slc cs b).2)∧∀ k o,(k,o)∈(mat slc cs b).2→∃ sz,o=.row sz [] true false
 | [],cs,b=>by simp only[mat];exact⟨fun c hc=>.inl hc,fun k o h=>by simp at h⟩
 | t :: ts,[],b=>by cases t<;>(simp only[mat];exact⟨fun c hc=>.inl hc,fun k o h=>by simp at h⟩)
 | t :: ts,v :: vs,b=>by
  by_cases hv:(∃ sz,t=some sz)∧v=.nil
  ·obtain⟨⟨sz,rfl⟩,rfl⟩:=hv;obtain⟨h1,h2⟩:=ZdH ts vs (b+1);simp only[mat];refine⟨fun c hc=>?_,fun k o h=>?_⟩
   ·rcases Ke.1 hc with rfl | hc
    ·exact .inr ⟨b,_,rfl,K1 ..⟩
    ·rcases h1 c hc with h | ⟨k,o,e,h⟩
     ·exact .inl (Ks _ h)
     ·exact .inr ⟨k,o,e,Ks _ h⟩
   ·rcases Ke.1 h with h | h
    ·cases h;exact⟨_,rfl⟩
    ·exact h2 k o h
  ·obtain⟨h1,h2⟩:=ZdH ts vs b;have e:mat (t :: ts) (v :: vs) b=(v :: (mat ts vs b).1,(mat ts vs b).2):=by
    cases t with
    | none=>simp[mat]
    | some sz=>cases v<;>first | (exact absurd ⟨⟨sz,rfl⟩,rfl⟩ hv) | simp[mat]
   rw[e];refine⟨fun c hc=>?_,h2⟩;rcases Ke.1 hc with rfl | hc
   ·exact .inl (K1 ..)
   ·rcases h1 c hc with h | h
    ·exact .inl (Ks _ h)
    ·exact .inr h
theorem Ziw {base:Nat}:∀ {cs:List AV},XO cs=true→cs.map (ZbE base)=cs
 | [],_=>rfl
 | c :: cs,h=>by
  simp only[XO,Kb] at h;rw[Ko,Ziw h.2];congr 1
  cases c<;>first | rfl | (simp[U3] at h)
theorem Zix:∀ {cs:List AV},XO cs=true→QH cs=true
 | [],_=>rfl
 | c :: cs,h=>by
  simp only[XO,Kb] at h;have:=Zix h.2;cases c<;>first | exact this | (simp[U3] at h)
theorem ZeA {slc:List (Option Nat)} {cs:List AV} {ce:Zb} (hb:∀ k,base≤k→k<base+64→k∉g) (hc:XO cs=true) (h:ZaI slc base cs=some ce) (ad:Qn base (base+64) ce.eff.adds=true) :
  (∀ id∈Zm ce.eff.val,id∉g)∧∀ k o,(k,o)∈ce.eff.adds→QD g o=o:=by
 have hr:=Vm ad;unfold ZaI at h;rw[Ziw hc] at h;unfold Zgd at h;rw[Kp (by rw[Zix hc];decide)] at h;split at h
 ·cases h;simp only at hr ⊢;obtain⟨h1,h2⟩:=ZdH slc cs (base+1);refine⟨fun id aa=>?_,fun k o hm=>?_⟩
  ·simp[Zm,Zn,Zf] at aa;subst aa;exact hb _ (Kf _) (by omega)
  ·rcases Ke.1 hm with hm | hm
   ·cases hm;simp only[QD];congr 1
    rw[Kw (g:=id),Lm];intro c ab;rcases h1 c ab with h | ⟨k,o,rfl,h⟩
    ·exact Zez (JJ hc c h)
    ·have:=hr k o (Ks _ h);have hk:=hb k this.1 this.2;simp[ZD,ZP,hk]
   ·obtain⟨sz,rfl⟩:=h2 k o hm;rfl
 ·cases h;simp only at hr ⊢;refine⟨fun id aa=>?_,fun k o hm=>?_⟩
  ·simp[Zm,Zn,Zf] at aa;subst aa;exact hb _ (Kf _) (by omega)
  ·simp at hm;obtain⟨rfl,rfl⟩:=hm;simp only[QD];congr 1
   rw[Kw (g:=id),Lm];exact fun c ab=>Zez (JJ hc c ab)
theorem ZnM {c:COp} (hc:Zgv c=true) (he:∀ x∈Zr c,evO sl' x=evO sl x) (hs:∀ x∈Zr c,ZcJ g hp hp' (evO sl x)) {ce:Zb}
  (hb:∀ k,base≤k→k<base+64→k∉g) (h:vop C M sl hp base c=some ce) (ab:Qn base (base+64) ce.eff.adds=true) (ad:ce.eff.frz=[]) (ho:okV ce.eff.val=true) (hk:kill g ce.eff.val=ce.eff.val):vop C M sl' hp' base c=some ce∧∀ k o,(k,o)∈ce.eff.adds→QD g o=o:=by
 rw[Qy C M hp' base he];have aa:ce.eff.adds=[]→∀ k o,(k,o)∈ce.eff.adds→QD g o=o:=fun e k o hm=>by rw[e] at hm;simp at hm
 simp only[Zgv,Ld,Kb] at hc;rcases hc with ((hc | hc) | ⟨hc1,hc2⟩) | hc
 ·cases c<;>simp only[VJ,Ka] at hc<;>simp only[vop] at h ⊢ <;> simp only[Zr] at hs
  case load a s x=>exact⟨ZmN h (ZnK (hs x (by simp)) (Wy h) ho hk),aa (Qf h)⟩
  case slice s x lo hi=>
   rw[Zau (hs x (by simp))];exact⟨h,aa (Qf h)⟩
  case slice0 x hi mx=>
   unfold slice0 at h ⊢;rw[Jl (hs x (by simp))];exact⟨h,aa (Qf h)⟩
  case iaS s x i=>
   obtain⟨n,h1,h⟩:=Za h;rw[h1,Zc];unfold ZbT at h ⊢;rw[WG (hs x (by simp))];refine⟨h,aa ?_⟩;split at h
   ·exact Qf h
   ·cases h
  case len x=>
   rw[Jl (hs x (by simp))];refine⟨h,aa ?_⟩;obtain⟨n,_,h⟩:=Za h;exact ZO h
 ·cases c<;>simp only[ZiQ,Ka] at hc
  simp only[vop] at h ⊢;obtain⟨h1,h2,h3⟩:=ZbN h ad hp';refine⟨h1,fun k o hm=>?_⟩;obtain⟨sz,xs,e,f,rfl⟩:=h3 k o hm;rfl
 ·rw[← ZcK (hp:=hp) hc1];exact⟨h,aa (ZlR hc1 hc2 h)⟩
 ·cases c<;>simp only[Zfl,Ka] at hc
  simp only[vop] at h ⊢;exact⟨h,(ZeA hb hc h ab).2⟩
theorem ZlS {c:COp} (hc:Zc2 c=true) (he:∀ x∈Zr c,evO sl' x=evO sl x) (hs:∀ x∈Zr c,ZcJ g hp hp' (evO sl x)) {ce:Zb}
  (hn:∀ x∈Zr c,∀ id∈Zm (evO sl x),id∉g) (hb:∀ k,base≤k→k<base+64→k∉g)
  (h:vop C M sl' hp' base c=some ce) (ad:Qn base (base+64) ce.eff.adds=true) (ae:ce.eff.frz=[]) (ho:okV ce.eff.val=true):vop C M sl hp base c=some ce∧kill g ce.eff.val=ce.eff.val∧∀ k o,(k,o)∈ce.eff.adds→QD g o=o:=by
 rw[Qy C M hp' base he] at h;have aa:ce.eff.adds=[]→∀ k o,(k,o)∈ce.eff.adds→QD g o=o:=fun e k o hm=>by rw[e] at hm;simp at hm
 have names:(∀ id∈Zm ce.eff.val,id∉g)→kill g ce.eff.val=ce.eff.val:=ZmM ho;cases c<;>simp only[Zc2,Ka] at hc<;>simp only[vop] at h ⊢ <;> simp only[Zr] at hs hn
 case alloc slc cs=>
  obtain⟨h1,h2⟩:=ZeA hb hc h ad;exact⟨h,names h1,h2⟩
 case buildSl s xs=>
  obtain⟨h1,h2,h3⟩:=ZbN h ae hp;refine⟨h1,names fun id ab=>?_,fun k o hm=>?_⟩
  ·rcases h2 with h2 | h2
   ·rw[h2] at ab;simp[Zm,Zn,Zf] at ab
   ·rw[h2] at ab;simp[Zm,Zn,Zf] at ab;subst ab;exact hb _ (Kf _) (by omega)
  ·obtain⟨sz,xs,e,f,rfl⟩:=h3 k o hm;rfl
 case load a s x=>
  obtain⟨h1,h2⟩:=ZnL (hs x (by simp)) (Wy h) ho;exact⟨ZmN h h1,h2,aa (Qf h)⟩
 case nilCheck x=>
  have hx:=hn x (by simp);refine⟨h,names ?_,aa ?_⟩
  ·unfold Wc at h;split at h<;>rename_i hv<;>first | (cases h;done) | (cases h;show ∀ id∈Zm _,_;rw[← hv];exact hx)
  ·unfold Wc at h;split at h<;>first | exact ZO h | cases h
 case bin op eq x y=>
  have hd:∃ d,ce.eff.val=.d d:=by
   have o2:∀ {a b:AV},Yj (vbin op a b)=some ce→∃ d,ce.eff.val=.d d:=fun {a b} h=>by
    have h1:=Wy h;unfold vbin at h1;split at h1
    ·unfold Vv at h1;split at h1
     ·obtain⟨y,_,h1⟩:=Za h1;exact⟨_,(Option.some.inj h1).symm⟩
     ·obtain⟨y,_,h1⟩:=Za h1;exact⟨_,(Option.some.inj h1).symm⟩
     ·split at h1
      ·obtain⟨y,_,h1⟩:=Za h1;have:=Option.some.inj h1;exact⟨_,this.symm⟩
      ·cases h1
    ·obtain⟨y,_,h1⟩:=Za h1;have:=Option.some.inj h1;exact⟨_,this.symm⟩
    ·cases h1
   unfold ZhX at h;split at h
   ·split at h
    ·have h1:=Wy h;unfold Zih at h1;split at h1
     ·exact⟨_,(Option.some.inj h1).symm⟩
     ·exact⟨_,(Option.some.inj h1).symm⟩
     ·cases h1
    ·cases h
   ·exact o2 h
  obtain⟨d,hd⟩:=hd;refine⟨h,by rw[hd];rfl,aa ?_⟩;unfold ZhX at h;split at h
  ·split at h
   ·exact Qf h
   ·cases h
  ·exact Qf h
 case un op x=>
  have hd:∃ d,ce.eff.val=.d d:=by
   have h1:=Wy h;unfold vun at h1;split at h1
   ·unfold neg1 at h1;split at h1
    ·exact⟨_,(Option.some.inj h1).symm⟩
    ·cases h1
   ·unfold not1 at h1;split at h1
    ·exact⟨_,(Option.some.inj h1).symm⟩
    ·cases h1
   ·cases h1
  obtain⟨d,hd⟩:=hd;exact⟨h,by rw[hd];rfl,aa (Qf h)⟩
 case convI k x=>
  unfold Go.Abs.convI at h ⊢;split at h
  ·exact⟨h,by cases h;rfl,aa (ZO h)⟩
  ·cases h
 case shift off x=>
  have hx:=hn x (by simp);refine⟨h,names ?_,aa ?_⟩
  ·unfold Ys at h;split at h<;>rename_i hv<;>first | (cases h;done) | skip
   ·cases h;rw[hv] at hx;simpa [Zm,Zn,Zf] using hx
   ·cases h;rw[hv] at hx;simpa [Zm,Zn,Zf] using hx
   ·cases h;simp[Zm,Zn,Zf]
  ·unfold Ys at h;split at h<;>first | exact ZO h | cases h
 case slice s x lo hi=>
  have hx:=hn x (by simp);rw[Zau (hs x (by simp))] at h;refine⟨h,names ?_,aa (Qf h)⟩;have h1:=Wy h;cases hv:evO sl x<;>rw[hv] at h1 hx<;>simp only[X4] at h1<;>first | (cases h1;done) | skip
  case d y=>
   cases y<;>simp only[X4] at h1<;>first | (cases h1;done) | skip
   split at h1
   ·obtain⟨b,_,h1⟩:=Za h1;rw[← Option.some.inj h1];simp[Zm,Zn,Zf]
   ·cases h1
  case nil=>obtain⟨b,_,h1⟩:=Za h1;rw[← Option.some.inj h1];simp[Zm,Zn,Zf]
  case own id=>
   unfold Ud at h1;split at h1
   ·split at h1
    ·unfold ZkT at h1;split at h1
     ·rw[← Option.some.inj h1];exact hx
     ·obtain⟨b,_,h1⟩:=Za h1;rw[← Option.some.inj h1];simpa [Zm,Zn,Zf] using hx
    ·cases h1
   ·cases h1
  case ownv id off n=>
   unfold Wb at h1;split at h1
   ·split at h1
    ·obtain⟨b,_,h1⟩:=Za h1;rw[← Option.some.inj h1];simpa [Zm,Zn,Zf] using hx
    ·cases h1
   ·cases h1
 case sliceS x lo hi=>
  have hd:∃ d,ce.eff.val=.d d:=by
   have h1:=Wy h;unfold sliceS at h1;split at h1
   ·obtain⟨b,_,h1⟩:=Za h1;exact⟨_,(Option.some.inj h1).symm⟩
   ·cases h1
  obtain⟨d,hd⟩:=hd;exact⟨h,by rw[hd];rfl,aa (Qf h)⟩
 case lenS x=>
  obtain⟨n,h1,h⟩:=Za h;refine⟨by rw[h1,Zc];exact h,by cases h;rfl,aa (ZO h)⟩
 case iaS s x i=>
  have hx:=hn x (by simp);obtain⟨n,h1,h⟩:=Za h;rw[h1,Zc];unfold ZbT at h ⊢;rw[WG (hs x (by simp))] at h;refine⟨h,names ?_,aa ?_⟩
  ·split at h
   ·have h1:=Wy h;cases hv:evO sl x<;>rw[hv] at h1 hx<;>simp only[Z9] at h1<;>first | (cases h1;done) | skip
    case d y=>
     cases y<;>simp only[Z9] at h1<;>first | (cases h1;done) | skip
     obtain⟨b,_,h1⟩:=Za h1;unfold ZmX at h1;split at h1
     ·rw[← Option.some.inj h1];simp[Zm,Zn,Zf]
     ·cases h1
    case own id=>
     unfold UL at h1;split at h1
     ·split at h1
      ·rw[← Option.some.inj h1];simpa [Zm,Zn,Zf] using hx
      ·cases h1
     ·split at h1
      ·rw[← Option.some.inj h1];simpa [Zm,Zn,Zf] using hx
      ·cases h1
     ·cases h1
    case ownv id off n=>
     unfold Uc at h1;split at h1
     ·split at h1
      ·rw[← Option.some.inj h1];simpa [Zm,Zn,Zf] using hx
      ·cases h1
     ·cases h1
   ·cases h
  ·split at h
   ·exact Qf h
   ·cases h
 case len x=>
  rw[Jl (hs x (by simp))] at h;obtain⟨n,h1,h2⟩:=Za h;exact⟨h,by cases h2;rfl,aa (ZO h2)⟩
end
end Go.Abs
