/- Own text. -/
import Derived.Test.YtighjmleicikhaaAbsDraw3
import Derived.Test.YtighjmleicikhaaAbsSound5
set_option linter.unusedVariables false
set_option linter.unusedSimpArgs false
namespace Go.Abs
open Go
theorem Zkr {v:AV} (h:okC v=true):okV v=true:=by
 cases v<;>first | exact h | cases h
theorem Zch {g:List Nat} {v:AV} (h:okC (ZK g v)=true):ZK g v=v:=by
 cases v<;>simp only[ZK] at h ⊢ <;> first | rfl | (split at h<;>rename_i h' <;> first | (cases h;done) | rw[Kn h'])
theorem ZaX {g:List Nat}:∀ {cs:List AV},Zhv (cs.map (ZK g))=true→cs.map (ZK g)=cs
 | [],_=>rfl
 | c :: cs,h=>by
  simp only[Ky,Zhv,Kc] at h ⊢;rw[Zch h.1,ZaX h.2]
theorem Un {g:List Nat} {v:AV} (h:okV (Zv g v)=true):Zv g v=v:=by
 cases v with
 | agg cs=>simp only[Zv,okV] at h ⊢;rw[ZaX h]
 | clo f cs=>simp only[Zv,okV,okC] at h;cases h
 | tup vs=>rfl
 | _=>
  simp only[Zv] at h ⊢;refine Zch ?_;revert h;simp only[ZK]
  first | exact id | (split<;>first | exact id | (intro h;cases h))
theorem Wh {g:List Nat} {v:AV} (h:okV (kill g v)=true):kill g v=v:=by
 cases v with
 | tup vs=>
  cases vs with
  | nil=>rfl
  | cons x r=>simp only[kill,Ky,okV,okC] at h;cases h
 | _=>simp only[kill] at h ⊢;exact Un h
theorem Zij {g:List Nat} {v:AV} (hn:∀ id∈Ze v,id∉g):ZK g v=v:=by
 cases v<;>simp only[ZK]<;>first | rfl | (rw[Kn];simpa [Ze] using hn)
theorem Zks {g:List Nat} {v:AV} (h:okV v=true) (hn:∀ id∈Zj v,id∉g):kill g v=v:=by
 cases v with
 | tup vs=>
  cases vs with
  | nil=>rfl
  | cons x r=>simp only[okV,okC] at h;cases h
 | clo f cs=>simp only[okV,okC] at h;cases h
 | agg cs=>
  simp only[kill,Zv];congr 1
  rw[KE (g:=id),Lk];intro c hc;exact Zij fun id aa=>hn id (by simp only[Zj,Zm,Kk];exact⟨c,hc,aa⟩)
 | _=>simp only[kill,Zv];exact Zij hn
theorem Zmw {g:List Nat} {v:AV} (h:kill g v=v):∀ id∈Zj v,id∉g:=fun id aa=>(ZfZ g v id (by rw[h];exact aa)).2
theorem Zlm {g:List Nat} {c:AV} (h:okC c=true) (h1:ZK g c=c):Zv g c=c:=by
 cases c<;>simp only[Zv]<;>first | exact h1 | cases h
def Wi (g:List Nat):Option Zg→Option Zg→Prop
 | none,none=>True
 | some (.row s xs _ _),some (.row s' xs' _ _)=>s'=s∧xs'=xs
 | some (.box cs),some (.box cs')=>cs'=cs.map (Zv g)
 | some (.tree s n xs l),some (.tree s' n' xs' l')=>s'=s∧n'=n∧xs'=xs∧l'=XQ g l
 | some .gone,some .gone=>True
 | _,_=>False
theorem Zik {g:List Nat} {b:Bool} (o:Option Zg):Wi g o ((o.map (Qo g)).map fun o=>if b then Xl o else o):=by
 cases o with
 | none=>trivial
 | some o=>cases o<;>cases b<;>exact(by first | exact⟨rfl,rfl⟩ | exact rfl | exact⟨rfl,rfl,rfl,rfl⟩ | exact trivial)
theorem Zf9 {g:List Nat}:∀ {l:List AV} {ds:List D},UB l=some ds→l.map (Zv g)=l
 | [],ds,_=>rfl
 | v :: l,ds,h=>by
  simp only[UB] at h;obtain⟨x,h1,h⟩:=Za h;obtain⟨aa,h2,h⟩:=Za h;have:Zv g v=v:=by cases v<;>first | rfl | cases h1
  rw[Ky,this,Zf9 h2]
theorem Zel {g:List Nat}:∀ {l:List AV} {ds:List D},UB (l.map (Zv g))=some ds→l.map (Zv g)=l
 | [],ds,_=>rfl
 | v :: l,ds,h=>by
  simp only[Ky,UB] at h;obtain⟨x,h1,h⟩:=Za h;obtain⟨aa,h2,h⟩:=Za h;have hv:Zv g v=v:=by
   refine Un ?_;cases hk:Zv g v<;>rw[hk] at h1<;>first | rfl | cases h1
  rw[Ky,hv,Zel h2]
theorem Jr (l:List AV):(∃ ds,UB l=some ds∧YP l=.d (.agg ds))∨(UB l=none∧(YP l=.junk∨YP l=.agg l)):=by
 unfold YP;cases h:UB l with
 | some ds=>exact .inl ⟨ds,rfl,rfl⟩
 | none=>
  refine .inr ⟨rfl,?_⟩;unfold Yv;split
  ·rename_i h;cases h
  ·split
   ·exact .inl rfl
   ·exact .inr rfl
theorem Zbv:∀ {l:List AV},Zhv l=true→∀ c∈l,okC c=true
 | [],_,c,hc=>by simp at hc
 | x :: l,h,c,hc=>by
  simp only[Zhv,Kc] at h;rcases Ke.1 hc with rfl | hc
  ·exact h.1
  ·exact Zbv h.2 c hc
theorem Zln {g:List Nat} {l:List AV} (h:okV (YP l)=true) (hk:kill g (YP l)=YP l):l.map (Zv g)=l:=by
 rcases Jr l with ⟨ds,h1,h2⟩ | ⟨h1,h2 | h2⟩
 ·exact Zf9 h1
 ·rw[h2] at h;cases h
 ·rw[h2] at h hk;simp only[kill,Zv,AV.agg.injEq] at hk;simp only[okV] at h;have hm:=Zbv h;have aa : ∀ c∈l,ZK g c=c:=by
   intro c hc;have:=ZaX (g:=g) (cs:=l) (by rw[hk];exact h);exact Zch (by
    have h3:ZK g c∈l.map (ZK g):=List.mem_map_of_mem hc;rw[hk] at h3;exact hm _ h3)
  rw[KE (g:=id),Lk];intro c hc;exact Zlm (hm c hc) (aa c hc)
theorem Zlo {g:List Nat} {l:List AV} (h:okV (YP (l.map (Zv g)))=true):l.map (Zv g)=l:=by
 rcases Jr (l.map (Zv g)) with ⟨ds,h1,h2⟩ | ⟨h1,h2 | h2⟩
 ·exact Zel h1
 ·rw[h2] at h;cases h
 ·rw[h2] at h;simp only[okV] at h;have hm:=Zbv h;rw[KE (g:=id),Lk];intro c hc;exact Un (Zkr (hm _ (List.mem_map_of_mem hc)))
theorem Zjp {g:List Nat} {v:AV} (h:okV v=true) (hk:kill g v=v):Zv g v=v:=by
 cases v with
 | tup vs=>rfl
 | _=>simp only[kill] at hk;exact hk
theorem Zjq {g:List Nat} {v:AV} (h:okV v=true) (hk:Zv g v=v):kill g v=v:=by
 cases v with
 | tup vs=>
  cases vs with
  | nil=>rfl
  | cons x r=>simp only[okV,okC] at h;cases h
 | _=>simp only[kill];exact hk
theorem ZaE {α β:Type} (f:α→β) (l:List α) (a b:Nat):((l.map f).drop a).take b=((l.drop a).take b).map f:=by
 rw[← List.map_drop,← List.map_take]
theorem Zc6 (g:List Nat) (c:AV):ZbA (Zv g c)=Zv g (ZbA c):=by
 have aa:∀ v:AV,(∀ a b,v≠.bbuf a b)→ZbA v=v:=fun v h'=>by cases v<;>first | rfl | exact absurd rfl (h' _ _)
 by_cases h' : ∃ a b,c=.bbuf a b
 ·obtain⟨a,b,rfl⟩:=h';rfl
 ·have h2:∀ a b,c≠.bbuf a b:=fun a b e=>h' ⟨a,b,e⟩;rw[aa c h2,aa];exact fun a b e=>h2 a b ((YC g c a b).1 e)
theorem Zil {g:List Nat} {cs:List AV} {a:Bool} {s off:Nat} {v:AV} (h:Vw a s off (some (.box cs))=some v) (ho:okV v=true) (hk:kill g v=v):Vw a s off (some (.box (cs.map (Zv g))))=some v:=by
 unfold Vw at h ⊢;cases a with
 | true=>
  simp only[Ki] at h ⊢;split at h
  ·rename_i hl;cases h;rw[Kw (by simpa using hl),ZaE,Zln ho hk]
  ·cases h
 | false=>
  simp only[Ka,Kh] at h ⊢;obtain⟨c,hc,rfl⟩:=Option.map_eq_some_iff.1 h;rw[Lj,hc];simp only[KK];rw[Zc6,Zjp ho hk]
theorem Zim {g:List Nat} {cs:List AV} {a:Bool} {s off:Nat} {v:AV} (h:Vw a s off (some (.box (cs.map (Zv g))))=some v) (ho:okV v=true):Vw a s off (some (.box cs))=some v∧kill g v=v:=by
 unfold Vw at h ⊢;cases a with
 | true=>
  simp only[Ki] at h ⊢;split at h
  ·rename_i hl;cases h;rw[ZaE] at ho ⊢;have he:=Zlo ho;rw[he] at ho ⊢;refine⟨by rw[Kw (by simpa using hl)],?_⟩;rcases Jr ((cs.drop off).take s) with ⟨ds,h1,h2⟩ | ⟨h1,h2 | h2⟩
   ·rw[h2];rfl
   ·rw[h2] at ho;cases ho
   ·rw[h2] at ho ⊢;simp only[okV] at ho;have hm:=Zbv ho;simp only[kill,Zv,AV.agg.injEq];rw[KE (g:=id),Lk];intro c hc;have h3:Zv g c=c:=by
     refine Un ?_;have h4:Zv g c∈((cs.drop off).take s).map (Zv g):=List.mem_map_of_mem hc;rw[he] at h4;exact Zkr (hm _ h4)
    have:=hm c hc;cases c<;>first | exact h3 | cases this
  ·cases h
 | false=>
  simp only[Ka,Kh] at h ⊢;rw[Lj] at h;cases hc:cs[off]? with
  | none=>rw[hc] at h;cases h
  | some c=>
   rw[hc] at h;simp only[KK,Option.some.injEq] at h;rw[Zc6] at h;have h3:Zv g (ZbA c)=ZbA c:=Un (by rw[h];exact ho);rw[h3] at h;subst h;exact⟨rfl,Zjq ho h3⟩
theorem Zjr {g:List Nat} {o o' : Option Zg} (h:Wi g o o'):X7 o'=X7 o:=by
 cases o with
 | none=>cases o' with
  | none=>rfl
  | some o'=>cases h
 | some o=>cases o' with
  | none=>cases o<;>cases h
  | some o' =>
   have tr:∀ s n xs l,X7 (some (.tree s n xs (XQ g l)))=X7 (some (.tree s n xs l)):=by
    intro s n xs l;rcases l with _ | ⟨_ | nm,_⟩
    ·rfl
    ·rfl
    ·simp only[XQ];split<;>rfl
   cases o<;>cases o' <;> simp only[Wi] at h<;>first | (cases h;done) | rfl | (obtain⟨rfl,rfl⟩:=h;rfl) | (obtain⟨rfl,rfl,rfl,rfl⟩:=h;exact tr _ _ _ _)
theorem Wj {g:List Nat} {o o' : Option Zg} (h:Wi g o o'):(∃ s xs e f e' f',o=some (.row s xs e f)∧o'=some (.row s xs e' f'))∨(o=none∧o'=none)∨(∃ cs,o=some (.box cs)∧o'=some (.box (cs.map (Zv g))))∨(o=some .gone∧o'=some .gone)∨(∃ s n xs l,o=some (.tree s n xs l)∧o'=some (.tree s n xs (XQ g l))):=by
 cases o with
 | none=>cases o' with
  | none=>exact .inr (.inl ⟨rfl,rfl⟩)
  | some o'=>cases h
 | some o=>cases o' with
  | none=>cases o<;>cases h
  | some o' =>
   cases o with
   | box cs=>cases o' with
    | box cs'=>simp only[Wi] at h;subst h;exact .inr (.inr (.inl ⟨cs,rfl,rfl⟩))
    | row _ _ _ _=>cases h
    | gone=>cases h
    | tree _ _ _ _=>cases h
   | row s xs e f=>cases o' with
    | box cs'=>cases h
    | row s' xs' e' f'=>simp only[Wi] at h;obtain⟨rfl,rfl⟩:=h;exact .inl ⟨_,_,_,_,_,_,rfl,rfl⟩
    | gone=>cases h
    | tree _ _ _ _=>cases h
   | gone=>cases o' with
    | box cs'=>cases h
    | row _ _ _ _=>cases h
    | gone=>exact .inr (.inr (.inr (.inl ⟨rfl,rfl⟩)))
    | tree _ _ _ _=>cases h
   | tree s n xs l=>cases o' with
    | box cs'=>cases h
    | row _ _ _ _=>cases h
    | gone=>cases h
    | tree s' n' xs' l'=>simp only[Wi] at h;obtain⟨rfl,rfl,rfl,rfl⟩:=h;exact .inr (.inr (.inr (.inr ⟨_,_,_,_,rfl,rfl⟩)))
section
variable {g:List Nat} {o o' : Option Zg}
theorem Zg8 (h:Wi g o o') (sz id n:Nat):WS sz id n o'=WS sz id n o:=by
 rcases Wj h with ⟨s,xs,e,f,e',f',rfl,rfl⟩ | ⟨rfl,rfl⟩ | ⟨cs,rfl,rfl⟩ | ⟨rfl,rfl⟩ | ⟨s,n,xs,l,rfl,rfl⟩<;>rfl
theorem ZfH (h:Wi g o o') (sz id off m n:Nat):Wo sz id off m n o'=Wo sz id off m n o:=by
 rcases Wj h with ⟨s,xs,e,f,e',f',rfl,rfl⟩ | ⟨rfl,rfl⟩ | ⟨cs,rfl,rfl⟩ | ⟨rfl,rfl⟩ | ⟨s,n,xs,l,rfl,rfl⟩<;>rfl
theorem ZfI (h:Wi g o o') (s id:Nat) (lo hi:Option AV):Wp s id lo hi o'=Wp s id lo hi o:=by
 rcases Wj h with ⟨s,xs,e,f,e',f',rfl,rfl⟩ | ⟨rfl,rfl⟩ | ⟨cs,rfl,rfl⟩ | ⟨rfl,rfl⟩ | ⟨s,n,xs,l,rfl,rfl⟩<;>rfl
theorem Zem (h:Wi g o o') (s id off n:Nat) (lo hi:Option AV):Vl s id off n lo hi o'=Vl s id off n lo hi o:=by
 rcases Wj h with ⟨s,xs,e,f,e',f',rfl,rfl⟩ | ⟨rfl,rfl⟩ | ⟨cs,rfl,rfl⟩ | ⟨rfl,rfl⟩ | ⟨s,n,xs,l,rfl,rfl⟩<;>rfl
theorem Zg9 {i off:Nat} {l:Option (Option Nat×Nat×Nat)} {x:D} {v:AV} (h:YV i off l x=some v) (hk:kill g v=v):YV i off (XQ g l) x=some v:=by
 unfold YV at h ⊢;split at h
 ·unfold Zde at h;split at h
  ·rename_i nm i' c;split at h
   ·rename_i hc;cases h;have:g.contains nm=false:=by
     cases hg:g.contains nm with
     | false=>rfl
     | true=>simp only[kill,Zv,ZK,hg,Ki] at hk;cases hk
    simp only[XQ,this,Ka,Kh,Zde,hc,and_self,Ki]
   ·cases h
  ·cases h
 ·exact h
 ·cases h
theorem Zha {i off:Nat} {l:Option (Option Nat×Nat×Nat)} {x:D} {v:AV} (h:YV i off (XQ g l) x=some v):YV i off l x=some v∧kill g v=v:=by
 unfold YV at h ⊢;split at h
 ·unfold Zde at h;split at h
  ·rename_i nm i' c hl;split at h
   ·rename_i hc;cases h;unfold XQ at hl;split at hl
    ·rename_i ab q;split at hl
     ·cases hl
     ·rename_i hg;cases hl;simp only[Bool.not_eq_true] at hg;exact⟨by simp only[Zde,hc,and_self,Ki],by simp only[kill,Zv,ZK,hg,Ka,Kh]⟩
    ·rename_i aa;subst hl;exact absurd rfl (aa _ _)
   ·cases h
  ·cases h
 ·split at h
  ·rename_i hp;cases h;exact⟨by rw[Kw hp],rfl⟩
  ·cases h
 ·cases h
theorem Zbw {id:Nat} (h:Wi g o o') {a:Bool} {s sz i off:Nat} {v:AV}:(YW id a s sz i off o=some v→kill g v=v→YW id a s sz i off o'=some v)∧(YW id a s sz i off o'=some v→YW id a s sz i off o=some v∧kill g v=v):=by
 have aa:∀ {cs:List D},Wm a s off cs=some v→∃ d,v=.d d:=by
  intro cs h;unfold Wm at h;split at h
  ·split at h
   ·cases h;exact⟨_,rfl⟩
   ·cases h
  ·unfold asD at h;obtain⟨y,_,h⟩:=Za h;cases h;exact⟨_,rfl⟩
 rcases Wj h with ⟨s,xs,e,f,e',f',rfl,rfl⟩ | ⟨rfl,rfl⟩ | ⟨cs,rfl,rfl⟩ | ⟨rfl,rfl⟩ | ⟨s,n,xs,l,rfl,rfl⟩
 ·refine⟨fun h _=>h,fun h=>⟨h,?_⟩⟩;simp only[YW] at h;split at h
  ·obtain⟨x,_,h⟩:=Za h;unfold ZbB at h;split at h
   ·obtain⟨d,rfl⟩:=aa h;rfl
   ·cases h
  ·cases h
 ·exact⟨fun h _=>(by cases h),fun h=>(by cases h)⟩
 ·exact⟨fun h _=>(by cases h),fun h=>(by cases h)⟩
 ·exact⟨fun h _=>(by cases h),fun h=>(by cases h)⟩
 ·simp only[YW];split
  ·split
   ·exact⟨fun h _=>(by cases h),fun h=>(by cases h)⟩
   ·constructor
    ·intro hh hk;obtain⟨x,h1,hh⟩:=Za hh;rw[h1,Zc];exact Zg9 hh hk
    ·intro hh;obtain⟨x,h1,hh⟩:=Za hh;rw[h1,Zc];exact Zha hh
  ·exact⟨fun h _=>(by cases h),fun h=>(by cases h)⟩
end
section
variable {hp hp' : Hp} {g:List Nat}
def Zbx (g:List Nat) (hp hp' : Hp) (v:AV):Prop:=∀ k∈Zj v,Wi g (lkp hp k) (lkp hp' k)
theorem Uo {v:AV} (h:Zbx g hp hp' v):W2 hp' v=W2 hp v:=by
 cases v<;>simp only[W2]
 case d x=>cases x<;>rfl
 case own id=>rw[Zjr (h id (by simp[Zj,Zm,Ze]))]
theorem VR {v:AV} (h:Zbx g hp hp' v) (sz n:Nat):Z0 hp' sz n v=Z0 hp sz n v:=by
 cases v<;>simp only[Z0]
 case d x=>cases x<;>rfl
 case own id=>rw[Zg8 (h id (by simp[Zj,Zm,Ze]))]
 case ownv id off n=>rw[ZfH (h id (by simp[Zj,Zm,Ze]))]
theorem Js {v:AV} (h:Zbx g hp hp' v) (s:Nat) (lo hi:Option AV):XB hp' s lo hi v=XB hp s lo hi v:=by
 cases v<;>simp only[XB]
 case d x=>cases x<;>rfl
 case own id=>rw[ZfI (h id (by simp[Zj,Zm,Ze]))]
 case ownv id off n=>rw[Zem (h id (by simp[Zj,Zm,Ze]))]
theorem Zlp {x v:AV} (hs:Zbx g hp hp' x) {a:Bool} {s:Nat} (h:Yo hp a s x=some v) (ho:okV v=true) (hk:kill g v=v):Yo hp' a s x=some v:=by
 cases x<;>simp only[Yo] at h ⊢ <;> first | (cases h;done) | skip
 case ptr id off=>
  rcases Wj (hs id (by simp[Zj,Zm,Ze])) with ⟨_,_,_,_,_,_,e1,e2⟩ | ⟨e1,e2⟩ | ⟨cs,e1,e2⟩ | ⟨e1,e2⟩ | ⟨_,_,_,_,e1,e2⟩
  ·rw[e1] at h;cases h
  ·rw[e1] at h;cases h
  ·rw[e1] at h;rw[e2];exact Zil h ho hk
  ·rw[e1] at h;cases h
  ·rw[e1] at h;cases h
 case prow id sz i off=>exact(Zbw (hs id (by simp[Zj,Zm,Ze]))).1 h hk
 case pim cs=>exact h
theorem Zmx {a:Bool} {s off:Nat} {cs:List D} {v:AV} (h:Wm a s off cs=some v):∃ d,v=.d d:=by
 unfold Wm at h;split at h
 ·split at h
  ·cases h;exact⟨_,rfl⟩
  ·cases h
 ·unfold asD at h;obtain⟨y,_,h⟩:=Za h;cases h;exact⟨_,rfl⟩
theorem Zlq {x v:AV} (hs:Zbx g hp hp' x) {a:Bool} {s:Nat} (h:Yo hp' a s x=some v) (ho:okV v=true):Yo hp a s x=some v∧kill g v=v:=by
 cases x<;>simp only[Yo] at h ⊢ <;> first | (cases h;done) | skip
 case ptr id off=>
  rcases Wj (hs id (by simp[Zj,Zm,Ze])) with ⟨_,_,_,_,_,_,e1,e2⟩ | ⟨e1,e2⟩ | ⟨cs,e1,e2⟩ | ⟨e1,e2⟩ | ⟨_,_,_,_,e1,e2⟩
  ·rw[e2] at h;cases h
  ·rw[e2] at h;cases h
  ·rw[e2] at h;rw[e1];exact Zim h ho
  ·rw[e2] at h;cases h
  ·rw[e2] at h;cases h
 case prow id sz i off=>
  exact(Zbw (hs id (by simp[Zj,Zm,Ze]))).2 h
 case pim cs=>
  obtain⟨d,rfl⟩:=Zmx h;exact⟨h,rfl⟩
theorem Zc7 {x:AV} {d:D} {e:Bool} (h:V1 hp x=some (d,e,[])) (hp' : Hp):V1 hp' x=some (d,e,[]):=by
 cases x<;>simp only[V1] at h ⊢ <;> first | exact h | skip
 case own id=>obtain⟨q,_,h⟩:=Za h;simp at h
theorem Zc8:∀ {xs:List AV} {d:List D} {e:Bool},XE hp xs=some (d,e,[])→∀ hp' : Hp,XE hp' xs=some (d,e,[])
 | [],d,e,h,hp'=>h
 | x :: xs,d,e,h,hp'=>by
  simp only[XE] at h ⊢;obtain⟨⟨d1,e1,l1⟩,h1,h⟩:=Za h;obtain⟨⟨d2,e2,l2⟩,h2,h⟩:=Za h;have hl:l1=[]∧l2=[]:=by
   simp only at h;split at h
   ·simp only[Option.some.injEq,Prod.mk.injEq,List.append_eq_nil_iff] at h;exact h.2.2
   ·cases h
  obtain⟨rfl,rfl⟩:=hl;rw[Zc7 h1 hp',Zc,Zc8 h2 hp',Zc];exact h
theorem Zjs {x:AV} {d:D} {e:Bool} (h:give hp x=some (d,e,[])) (hp' : Hp):give hp' x=some (d,e,[]):=by
 cases x<;>simp only[give] at h ⊢ <;> first | exact Zc7 h hp' | skip
 case agg cs=>
  obtain⟨⟨d1,e1,l1⟩,h1,h⟩:=Za h;simp only[Option.some.injEq,Prod.mk.injEq] at h;obtain⟨rfl,rfl,rfl⟩:=h;rw[Zc8 h1 hp',Zc]
theorem ZaF:∀ {xs:List AV} {d:List D} {e:Bool},X8 hp xs=some (d,e,[])→∀ hp' : Hp,X8 hp' xs=some (d,e,[])
 | [],d,e,h,hp'=>h
 | x :: xs,d,e,h,hp'=>by
  simp only[X8] at h ⊢;obtain⟨⟨d1,e1,l1⟩,h1,h⟩:=Za h;obtain⟨⟨d2,e2,l2⟩,h2,h⟩:=Za h;have hl:l1=[]∧l2=[]:=by
   simp only at h;split at h
   ·simp only[Option.some.injEq,Prod.mk.injEq,List.append_eq_nil_iff] at h;exact h.2.2
   ·cases h
  obtain⟨rfl,rfl⟩:=hl;rw[Zjs h1 hp',Zc,ZaF h2 hp',Zc];exact h
theorem ZaG {base s:Nat} {vs:List AV} {ce:Zb} (h:buildSl hp base s vs=some ce) (hf:ce.eff.frz=[]) (hp' : Hp) :
  buildSl hp' base s vs=some ce∧(ce.eff.val=.nil∨ce.eff.val=.own base)∧(∀ k o,(k,o)∈ce.eff.adds→∃ sz xs e f,o=.row sz xs e f):=by
 cases vs with
 | nil=>simp only[buildSl,Z7] at h ⊢;cases h;exact⟨rfl,.inl rfl,fun k o h=>by simp at h⟩
 | cons v vs=>
  simp only[buildSl] at h ⊢;obtain⟨⟨ds,e,l⟩,h1,h⟩:=Za h;unfold ZlH at h;split at h
  ·rename_i hc;cases h;simp only at hf;subst hf;rw[ZaF h1 hp',Zc];refine⟨?_,.inr rfl,fun k o ho=>?_⟩
   ·unfold ZlH;rw[Kw hc]
   ·simp at ho;obtain⟨rfl,rfl⟩:=ho;exact⟨_,_,_,_,rfl⟩
  ·cases h
end
theorem Zby {C:Orc} {M:Zf} {sl:Sl} {hp hp' : Hp} {base:Nat} {c:COp} (hc:X2 c=true):vop C M sl hp base c=vop C M sl hp' base c:=by
 cases c<;>first | rfl | (simp[X2] at hc)
section
variable {C:Orc} {M:Zf} {sl sl' : Sl} {hp hp' : Hp} {base:Nat} {g:List Nat}
theorem ZJ {v:AV} {ce:Zb} (h:Z7 v=some ce):ce.eff.adds=[]:=by cases h;rfl
theorem Z9 {v:Option AV} {ce:Zb} (h:XN v=some ce):ce.eff.adds=[]:=by obtain⟨v,_,h⟩:=Za h;exact ZJ h
theorem VE {v:Option AV} {ce:Zb} (h:XN v=some ce):v=some ce.eff.val:=by obtain⟨v,rfl,h⟩:=Za h;cases h;rfl
theorem Zkt {v:Option AV} {ce:Zb} {w:Option AV} (h:XN v=some ce) (hw:w=some ce.eff.val):XN w=some ce:=by
 obtain⟨v,rfl,h⟩:=Za h;cases h;rw[hw];rfl
theorem Zjt {c:COp} (hc:X2 c=true) (hv:ZjN c=true) {ce:Zb} (h:vop C M sl hp base c=some ce):ce.eff.adds=[]:=by
 cases c<;>simp only[X2,ZjN,Ka] at hc hv<;>simp only[vop] at h
 case stuck=>cases h
 case move x=>exact ZJ h
 case pick c a b=>
  unfold JD at h;split at h
  ·split at h<;>exact ZJ h
  ·cases h
 case build zs ps=>obtain⟨cs,_,h⟩:=Za h;exact ZJ h
 case nilCheck x=>unfold Vm at h;split at h<;>first | exact ZJ h | cases h
 case bin op eq x y=>
  unfold ZeC at h;split at h
  ·split at h
   ·exact Z9 h
   ·cases h
  ·exact Z9 h
 case un op x=>exact Z9 h
 case eqA neg n x y=>
  unfold Zhj at h;split at h
  ·obtain⟨r,_,h⟩:=Za h;exact ZJ h
  ·cases h
 case convI k x=>unfold Go.Abs.convI at h;split at h<;>first | exact ZJ h | cases h
 case convS x=>unfold Go.Abs.convS at h;split at h<;>first | exact ZJ h | cases h
 case sliceS x lo hi=>exact Z9 h
 case shift off x=>unfold X0 at h;split at h<;>first | exact ZJ h | cases h
 case part g s off x=>exact Z9 h
 case iaA len s x i=>
  obtain⟨n,_,h⟩:=Za h;unfold ZeE at h;split at h
  ·unfold X0 at h;split at h<;>first | exact ZJ h | cases h
  ·cases h
 case ixS x i=>
  obtain⟨n,_,h⟩:=Za h;unfold ZjC at h;split at h
  ·unfold Ziz at h;split at h
   ·obtain⟨b,_,h⟩:=Za h;exact ZJ h
   ·cases h
  ·cases h
 case ixA g s len x i=>
  obtain⟨n,_,h⟩:=Za h;unfold ZlI at h;split at h
  ·exact Z9 h
  ·cases h
 case nth i x=>unfold ZiA at h;split at h<;>first | exact Z9 h | cases h
 case lenS x=>obtain⟨n,_,h⟩:=Za h;exact ZJ h
 case min x y=>unfold Zdf at h;split at h<;>first | (split at h<;>first | exact ZJ h | cases h) | cases h
 case max x y=>unfold Zdg at h;split at h<;>first | (split at h<;>first | exact ZJ h | cases h) | cases h
theorem Zc9 {c:AV} (h:W9 c=true):Zv g c=c:=by cases c<;>first | rfl | cases h
theorem UI:∀ {cs:List AV},Xu cs=true→∀ c∈cs,W9 c=true
 | [],_,c,hc=>by simp at hc
 | x :: l,h,c,hc=>by
  simp only[Xu,Kc] at h;rcases Ke.1 hc with rfl | hc
  ·exact h.1
  ·exact UI h.2 c hc
theorem Zci:∀ (slc:List (Option Nat)) (cs:List AV) (b:Nat),(∀ c∈(mat slc cs b).1,c∈cs∨∃ k o,c=.own k∧(k,o)∈(mat slc cs b).2)∧∀ k o,(k,o)∈(mat slc cs b).2→∃ sz,o=.row sz [] true false
 | [],cs,b=>by simp only[mat];exact⟨fun c hc=>.inl hc,fun k o h=>by simp at h⟩
 | t :: ts,[],b=>by cases t<;>(simp only[mat];exact⟨fun c hc=>.inl hc,fun k o h=>by simp at h⟩)
 | t :: ts,v :: vs,b=>by
  by_cases hv:(∃ sz,t=some sz)∧v=.nil
  ·obtain⟨⟨sz,rfl⟩,rfl⟩:=hv;obtain⟨h1,h2⟩:=Zci ts vs (b+1);simp only[mat];refine⟨fun c hc=>?_,fun k o h=>?_⟩
   ·rcases Ke.1 hc with rfl | hc
    ·exact .inr ⟨b,_,rfl,K0 ..⟩
    ·rcases h1 c hc with h | ⟨k,o,e,h⟩
     ·exact .inl (Km _ h)
     ·exact .inr ⟨k,o,e,Km _ h⟩
   ·rcases Ke.1 h with h | h
    ·cases h;exact⟨_,rfl⟩
    ·exact h2 k o h
  ·obtain⟨h1,h2⟩:=Zci ts vs b;have e:mat (t :: ts) (v :: vs) b=(v :: (mat ts vs b).1,(mat ts vs b).2):=by
    cases t with
    | none=>simp[mat]
    | some sz=>cases v<;>first | (exact absurd ⟨⟨sz,rfl⟩,rfl⟩ hv) | simp[mat]
   rw[e];refine⟨fun c hc=>?_,h2⟩;rcases Ke.1 hc with rfl | hc
   ·exact .inl (K0 ..)
   ·rcases h1 c hc with h | h
    ·exact .inl (Km _ h)
    ·exact .inr h
theorem Zga {base:Nat}:∀ {cs:List AV},Xu cs=true→cs.map (Za1 base)=cs
 | [],_=>rfl
 | c :: cs,h=>by
  simp only[Xu,Kc] at h;rw[Ky,Zga h.2];congr 1
  cases c<;>first | rfl | (simp[W9] at h)
theorem Zgb:∀ {cs:List AV},Xu cs=true→QC cs=true
 | [],_=>rfl
 | c :: cs,h=>by
  simp only[Xu,Kc] at h;have:=Zgb h.2;cases c<;>first | exact this | (simp[W9] at h)
theorem Zda {slc:List (Option Nat)} {cs:List AV} {ce:Zb} (hb:∀ k,base≤k→k<base+64→k∉g) (hc:Xu cs=true) (h:JE slc base cs=some ce) (ad:Qf base (base+64) ce.eff.adds=true) :
  (∀ id∈Zj ce.eff.val,id∉g)∧∀ k o,(k,o)∈ce.eff.adds→Qo g o=o:=by
 have hr:=YK ad;unfold JE at h;rw[Zga hc] at h;unfold ZeA at h;rw[Kn (by rw[Zgb hc];decide)] at h;split at h
 ·cases h;simp only at hr ⊢;obtain⟨h1,h2⟩:=Zci slc cs (base+1);refine⟨fun id aa=>?_,fun k o hm=>?_⟩
  ·simp[Zj,Zm,Ze] at aa;subst aa;exact hb _ (Kg _) (by omega)
  ·rcases Ke.1 hm with hm | hm
   ·cases hm;simp only[Qo];congr 1
    rw[KE (g:=id),Lk];intro c ab;rcases h1 c ab with h | ⟨k,o,rfl,h⟩
    ·exact Zc9 (UI hc c h)
    ·have:=hr k o (Km _ h);have hk:=hb k this.1 this.2;simp[Zv,ZK,hk]
   ·obtain⟨sz,rfl⟩:=h2 k o hm;rfl
 ·cases h;simp only at hr ⊢;refine⟨fun id aa=>?_,fun k o hm=>?_⟩
  ·simp[Zj,Zm,Ze] at aa;subst aa;exact hb _ (Kg _) (by omega)
  ·simp at hm;obtain⟨rfl,rfl⟩:=hm;simp only[Qo];congr 1
   rw[KE (g:=id),Lk];exact fun c ab=>Zc9 (UI hc c ab)
theorem Zlr {c:COp} (hc:ZeU c=true) (he:∀ x∈Zo c,evO sl' x=evO sl x) (hs:∀ x∈Zo c,Zbx g hp hp' (evO sl x)) {ce:Zb}
  (hb:∀ k,base≤k→k<base+64→k∉g) (h:vop C M sl hp base c=some ce) (ab:Qf base (base+64) ce.eff.adds=true) (ad:ce.eff.frz=[]) (ho:okV ce.eff.val=true) (hk:kill g ce.eff.val=ce.eff.val):vop C M sl' hp' base c=some ce∧∀ k o,(k,o)∈ce.eff.adds→Qo g o=o:=by
 rw[Qk C M hp' base he];have aa:ce.eff.adds=[]→∀ k o,(k,o)∈ce.eff.adds→Qo g o=o:=fun e k o hm=>by rw[e] at hm;simp at hm
 simp only[ZeU,Ll,Kc] at hc;rcases hc with ((hc | hc) | ⟨hc1,hc2⟩) | hc
 ·cases c<;>simp only[Y3,Ka] at hc<;>simp only[vop] at h ⊢ <;> simp only[Zo] at hs
  case load a s x=>exact⟨Zkt h (Zlp (hs x (by simp)) (VE h) ho hk),aa (Z9 h)⟩
  case slice s x lo hi=>
   rw[Js (hs x (by simp))];exact⟨h,aa (Z9 h)⟩
  case slice0 x hi mx=>
   unfold slice0 at h ⊢;rw[Uo (hs x (by simp))];exact⟨h,aa (Z9 h)⟩
  case iaS s x i=>
   obtain⟨n,h1,h⟩:=Za h;rw[h1,Zc];unfold ZaL at h ⊢;rw[VR (hs x (by simp))];refine⟨h,aa ?_⟩;split at h
   ·exact Z9 h
   ·cases h
  case len x=>
   rw[Uo (hs x (by simp))];refine⟨h,aa ?_⟩;obtain⟨n,_,h⟩:=Za h;exact ZJ h
 ·cases c<;>simp only[Zgt,Ka] at hc
  simp only[vop] at h ⊢;obtain⟨h1,h2,h3⟩:=ZaG h ad hp';refine⟨h1,fun k o hm=>?_⟩;obtain⟨sz,xs,e,f,rfl⟩:=h3 k o hm;rfl
 ·rw[← Zby (hp:=hp) hc1];exact⟨h,aa (Zjt hc1 hc2 h)⟩
 ·cases c<;>simp only[ZdM,Ka] at hc
  simp only[vop] at h ⊢;exact⟨h,(Zda hb hc h ab).2⟩
theorem Zju {c:COp} (hc:ZbP c=true) (he:∀ x∈Zo c,evO sl' x=evO sl x) (hs:∀ x∈Zo c,Zbx g hp hp' (evO sl x)) {ce:Zb}
  (hn:∀ x∈Zo c,∀ id∈Zj (evO sl x),id∉g) (hb:∀ k,base≤k→k<base+64→k∉g)
  (h:vop C M sl' hp' base c=some ce) (ad:Qf base (base+64) ce.eff.adds=true) (ae:ce.eff.frz=[]) (ho:okV ce.eff.val=true):vop C M sl hp base c=some ce∧kill g ce.eff.val=ce.eff.val∧∀ k o,(k,o)∈ce.eff.adds→Qo g o=o:=by
 rw[Qk C M hp' base he] at h;have aa:ce.eff.adds=[]→∀ k o,(k,o)∈ce.eff.adds→Qo g o=o:=fun e k o hm=>by rw[e] at hm;simp at hm
 have names:(∀ id∈Zj ce.eff.val,id∉g)→kill g ce.eff.val=ce.eff.val:=Zks ho;cases c<;>simp only[ZbP,Ka] at hc<;>simp only[vop] at h ⊢ <;> simp only[Zo] at hs hn
 case alloc slc cs=>
  obtain⟨h1,h2⟩:=Zda hb hc h ad;exact⟨h,names h1,h2⟩
 case buildSl s xs=>
  obtain⟨h1,h2,h3⟩:=ZaG h ae hp;refine⟨h1,names fun id ab=>?_,fun k o hm=>?_⟩
  ·rcases h2 with h2 | h2
   ·rw[h2] at ab;simp[Zj,Zm,Ze] at ab
   ·rw[h2] at ab;simp[Zj,Zm,Ze] at ab;subst ab;exact hb _ (Kg _) (by omega)
  ·obtain⟨sz,xs,e,f,rfl⟩:=h3 k o hm;rfl
 case load a s x=>
  obtain⟨h1,h2⟩:=Zlq (hs x (by simp)) (VE h) ho;exact⟨Zkt h h1,h2,aa (Z9 h)⟩
 case nilCheck x=>
  have hx:=hn x (by simp);refine⟨h,names ?_,aa ?_⟩
  ·unfold Vm at h;split at h<;>rename_i hv<;>first | (cases h;done) | (cases h;show ∀ id∈Zj _,_;rw[← hv];exact hx)
  ·unfold Vm at h;split at h<;>first | exact ZJ h | cases h
 case bin op eq x y=>
  have hd:∃ d,ce.eff.val=.d d:=by
   have o2:∀ {a b:AV},XN (vbin op a b)=some ce→∃ d,ce.eff.val=.d d:=fun {a b} h=>by
    have h1:=VE h;unfold vbin at h1;split at h1
    ·unfold YR at h1;split at h1
     ·obtain⟨y,_,h1⟩:=Za h1;exact⟨_,(Option.some.inj h1).symm⟩
     ·obtain⟨y,_,h1⟩:=Za h1;exact⟨_,(Option.some.inj h1).symm⟩
     ·split at h1
      ·obtain⟨y,_,h1⟩:=Za h1;have:=Option.some.inj h1;exact⟨_,this.symm⟩
      ·cases h1
    ·obtain⟨y,_,h1⟩:=Za h1;have:=Option.some.inj h1;exact⟨_,this.symm⟩
    ·cases h1
   unfold ZeC at h;split at h
   ·split at h
    ·have h1:=VE h;unfold ZfX at h1;split at h1
     ·exact⟨_,(Option.some.inj h1).symm⟩
     ·exact⟨_,(Option.some.inj h1).symm⟩
     ·cases h1
    ·cases h
   ·exact o2 h
  obtain⟨d,hd⟩:=hd;refine⟨h,by rw[hd];rfl,aa ?_⟩;unfold ZeC at h;split at h
  ·split at h
   ·exact Z9 h
   ·cases h
  ·exact Z9 h
 case un op x=>
  have hd:∃ d,ce.eff.val=.d d:=by
   have h1:=VE h;unfold vun at h1;split at h1
   ·unfold neg1 at h1;split at h1
    ·exact⟨_,(Option.some.inj h1).symm⟩
    ·cases h1
   ·unfold not1 at h1;split at h1
    ·exact⟨_,(Option.some.inj h1).symm⟩
    ·cases h1
   ·cases h1
  obtain⟨d,hd⟩:=hd;exact⟨h,by rw[hd];rfl,aa (Z9 h)⟩
 case convI k x=>
  unfold Go.Abs.convI at h ⊢;split at h
  ·exact⟨h,by cases h;rfl,aa (ZJ h)⟩
  ·cases h
 case shift off x=>
  have hx:=hn x (by simp);refine⟨h,names ?_,aa ?_⟩
  ·unfold X0 at h;split at h<;>rename_i hv<;>first | (cases h;done) | skip
   ·cases h;rw[hv] at hx;simpa [Zj,Zm,Ze] using hx
   ·cases h;rw[hv] at hx;simpa [Zj,Zm,Ze] using hx
   ·cases h;simp[Zj,Zm,Ze]
  ·unfold X0 at h;split at h<;>first | exact ZJ h | cases h
 case slice s x lo hi=>
  have hx:=hn x (by simp);rw[Js (hs x (by simp))] at h;refine⟨h,names ?_,aa (Z9 h)⟩;have h1:=VE h;cases hv:evO sl x<;>rw[hv] at h1 hx<;>simp only[XB] at h1<;>first | (cases h1;done) | skip
  case d y=>
   cases y<;>simp only[XB] at h1<;>first | (cases h1;done) | skip
   split at h1
   ·obtain⟨b,_,h1⟩:=Za h1;rw[← Option.some.inj h1];simp[Zj,Zm,Ze]
   ·cases h1
  case nil=>obtain⟨b,_,h1⟩:=Za h1;rw[← Option.some.inj h1];simp[Zj,Zm,Ze]
  case own id=>
   unfold Wp at h1;split at h1
   ·split at h1
    ·unfold Zix at h1;split at h1
     ·rw[← Option.some.inj h1];exact hx
     ·obtain⟨b,_,h1⟩:=Za h1;rw[← Option.some.inj h1];simpa [Zj,Zm,Ze] using hx
    ·cases h1
   ·cases h1
  case ownv id off n=>
   unfold Vl at h1;split at h1
   ·split at h1
    ·obtain⟨b,_,h1⟩:=Za h1;rw[← Option.some.inj h1];simpa [Zj,Zm,Ze] using hx
    ·cases h1
   ·cases h1
 case sliceS x lo hi=>
  have hd:∃ d,ce.eff.val=.d d:=by
   have h1:=VE h;unfold sliceS at h1;split at h1
   ·obtain⟨b,_,h1⟩:=Za h1;exact⟨_,(Option.some.inj h1).symm⟩
   ·cases h1
  obtain⟨d,hd⟩:=hd;exact⟨h,by rw[hd];rfl,aa (Z9 h)⟩
 case lenS x=>
  obtain⟨n,h1,h⟩:=Za h;refine⟨by rw[h1,Zc];exact h,by cases h;rfl,aa (ZJ h)⟩
 case iaS s x i=>
  have hx:=hn x (by simp);obtain⟨n,h1,h⟩:=Za h;rw[h1,Zc];unfold ZaL at h ⊢;rw[VR (hs x (by simp))] at h;refine⟨h,names ?_,aa ?_⟩
  ·split at h
   ·have h1:=VE h;cases hv:evO sl x<;>rw[hv] at h1 hx<;>simp only[Z0] at h1<;>first | (cases h1;done) | skip
    case d y=>
     cases y<;>simp only[Z0] at h1<;>first | (cases h1;done) | skip
     obtain⟨b,_,h1⟩:=Za h1;unfold ZkB at h1;split at h1
     ·rw[← Option.some.inj h1];simp[Zj,Zm,Ze]
     ·cases h1
    case own id=>
     unfold WS at h1;split at h1
     ·split at h1
      ·rw[← Option.some.inj h1];simpa [Zj,Zm,Ze] using hx
      ·cases h1
     ·split at h1
      ·rw[← Option.some.inj h1];simpa [Zj,Zm,Ze] using hx
      ·cases h1
     ·cases h1
    case ownv id off n=>
     unfold Wo at h1;split at h1
     ·split at h1
      ·rw[← Option.some.inj h1];simpa [Zj,Zm,Ze] using hx
      ·cases h1
     ·cases h1
   ·cases h
  ·split at h
   ·exact Z9 h
   ·cases h
 case len x=>
  rw[Uo (hs x (by simp))] at h;obtain⟨n,h1,h2⟩:=Za h;exact⟨h,by cases h2;rfl,aa (ZJ h2)⟩
end
end Go.Abs
