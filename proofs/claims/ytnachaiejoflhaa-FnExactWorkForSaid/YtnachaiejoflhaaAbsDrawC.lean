/- Own text. -/
import Derived.Test.YtnachaiejoflhaaAbsDraw3
import Derived.Test.YtnachaiejoflhaaAbsSound5
set_option linter.unusedVariables false
set_option linter.unusedSimpArgs false
namespace Go.Abs
open Go
theorem Znf {v:AV} (h:okC v=true):okV v=true:=by
 cases v<;>first | exact h | cases h
theorem ZdO {g:List Nat} {v:AV} (h:okC (ZN g v)=true):ZN g v=v:=by
 cases v<;>simp only[ZN] at h ⊢ <;> first | rfl | (split at h<;>rename_i h' <;> first | (cases h;done) | rw[Ko h'])
theorem Zcn {g:List Nat}:∀ {cs:List AV},Zj9 (cs.map (ZN g))=true→cs.map (ZN g)=cs
 | [],_=>rfl
 | c :: cs,h=>by
  simp only[Ks,Zj9,Kb] at h ⊢;rw[ZdO h.1,Zcn h.2]
theorem Jf {g:List Nat} {v:AV} (h:okV (Zy g v)=true):Zy g v=v:=by
 cases v with
 | agg cs=>simp only[Zy,okV] at h ⊢;rw[Zcn h]
 | clo f cs=>simp only[Zy,okV,okC] at h;cases h
 | tup vs=>rfl
 | _=>
  simp only[Zy] at h ⊢;refine ZdO ?_;revert h;simp only[ZN]
  first | exact id | (split<;>first | exact id | (intro h;cases h))
theorem W5 {g:List Nat} {v:AV} (h:okV (kill g v)=true):kill g v=v:=by
 cases v with
 | tup vs=>
  cases vs with
  | nil=>rfl
  | cons x r=>simp only[kill,Ks,okV,okC] at h;cases h
 | _=>simp only[kill] at h ⊢;exact Jf h
theorem Zlb {g:List Nat} {v:AV} (hn:∀ id∈Ze v,id∉g):ZN g v=v:=by
 cases v<;>simp only[ZN]<;>first | rfl | (rw[Ko];simpa [Ze] using hn)
theorem Zng {g:List Nat} {v:AV} (h:okV v=true) (hn:∀ id∈Zl v,id∉g):kill g v=v:=by
 cases v with
 | tup vs=>
  cases vs with
  | nil=>rfl
  | cons x r=>simp only[okV,okC] at h;cases h
 | clo f cs=>simp only[okV,okC] at h;cases h
 | agg cs=>
  simp only[kill,Zy];congr 1
  rw[Kz (g:=id),K9];intro c hc;exact Zlb fun id aa=>hn id (by simp only[Zl,Zn,Kj];exact⟨c,hc,aa⟩)
 | _=>simp only[kill,Zy];exact Zlb hn
theorem Zpx {g:List Nat} {v:AV} (h:kill g v=v):∀ id∈Zl v,id∉g:=fun id aa=>(Zih g v id (by rw[h];exact aa)).2
theorem Zn8 {g:List Nat} {c:AV} (h:okC c=true) (h1:ZN g c=c):Zy g c=c:=by
 cases c<;>simp only[Zy]<;>first | exact h1 | cases h
def W6 (g:List Nat):Option Zh→Option Zh→Prop
 | none,none=>True
 | some (.row s xs _ _),some (.row s' xs' _ _)=>s'=s∧xs'=xs
 | some (.box cs),some (.box cs')=>cs'=cs.map (Zy g)
 | some (.tree s n xs l),some (.tree s' n' xs' l')=>s'=s∧n'=n∧xs'=xs∧l'=XW g l
 | some .gone,some .gone=>True
 | _,_=>False
theorem Zlc {g:List Nat} {b:Bool} (o:Option Zh):W6 g o ((o.map (QA g)).map fun o=>if b then Xq o else o):=by
 cases o with
 | none=>trivial
 | some o=>cases o<;>cases b<;>exact(by first | exact⟨rfl,rfl⟩ | exact rfl | exact⟨rfl,rfl,rfl,rfl⟩ | exact trivial)
theorem Zir {g:List Nat}:∀ {l:List AV} {ds:List D},JJ l=some ds→l.map (Zy g)=l
 | [],ds,_=>rfl
 | v :: l,ds,h=>by
  simp only[JJ] at h;obtain⟨x,h1,h⟩:=Za h;obtain⟨aa,h2,h⟩:=Za h;have:Zy g v=v:=by cases v<;>first | rfl | cases h1
  rw[Ks,this,Zir h2]
theorem Zgx {g:List Nat}:∀ {l:List AV} {ds:List D},JJ (l.map (Zy g))=some ds→l.map (Zy g)=l
 | [],ds,_=>rfl
 | v :: l,ds,h=>by
  simp only[Ks,JJ] at h;obtain⟨x,h1,h⟩:=Za h;obtain⟨aa,h2,h⟩:=Za h;have hv:Zy g v=v:=by
   refine Jf ?_;cases hk:Zy g v<;>rw[hk] at h1<;>first | rfl | cases h1
  rw[Ks,hv,Zgx h2]
theorem ZaK (l:List AV):(∃ ds,JJ l=some ds∧Vg l=.d (.agg ds))∨(JJ l=none∧(Vg l=.junk∨Vg l=.agg l)):=by
 unfold Vg;cases h:JJ l with
 | some ds=>exact .inl ⟨ds,rfl,rfl⟩
 | none=>
  refine .inr ⟨rfl,?_⟩;unfold YF;split
  ·rename_i h;cases h
  ·split
   ·exact .inl rfl
   ·exact .inr rfl
theorem ZcV:∀ {l:List AV},Zj9 l=true→∀ c∈l,okC c=true
 | [],_,c,hc=>by simp at hc
 | x :: l,h,c,hc=>by
  simp only[Zj9,Kb] at h;rcases Ke.1 hc with rfl | hc
  ·exact h.1
  ·exact ZcV h.2 c hc
theorem Zn9 {g:List Nat} {l:List AV} (h:okV (Vg l)=true) (hk:kill g (Vg l)=Vg l):l.map (Zy g)=l:=by
 rcases ZaK l with ⟨ds,h1,h2⟩ | ⟨h1,h2 | h2⟩
 ·exact Zir h1
 ·rw[h2] at h;cases h
 ·rw[h2] at h hk;simp only[kill,Zy,AV.agg.injEq] at hk;simp only[okV] at h;have hm:=ZcV h;have aa : ∀ c∈l,ZN g c=c:=by
   intro c hc;have:=Zcn (g:=g) (cs:=l) (by rw[hk];exact h);exact ZdO (by
    have h3:ZN g c∈l.map (ZN g):=List.mem_map_of_mem hc;rw[hk] at h3;exact hm _ h3)
  rw[Kz (g:=id),K9];intro c hc;exact Zn8 (hm c hc) (aa c hc)
theorem Zoa {g:List Nat} {l:List AV} (h:okV (Vg (l.map (Zy g)))=true):l.map (Zy g)=l:=by
 rcases ZaK (l.map (Zy g)) with ⟨ds,h1,h2⟩ | ⟨h1,h2 | h2⟩
 ·exact Zgx h1
 ·rw[h2] at h;cases h
 ·rw[h2] at h;simp only[okV] at h;have hm:=ZcV h;rw[Kz (g:=id),K9];intro c hc;exact Jf (Znf (hm _ (List.mem_map_of_mem hc)))
theorem Zml {g:List Nat} {v:AV} (h:okV v=true) (hk:kill g v=v):Zy g v=v:=by
 cases v with
 | tup vs=>rfl
 | _=>simp only[kill] at hk;exact hk
theorem Zmm {g:List Nat} {v:AV} (h:okV v=true) (hk:Zy g v=v):kill g v=v:=by
 cases v with
 | tup vs=>
  cases vs with
  | nil=>rfl
  | cons x r=>simp only[okV,okC] at h;cases h
 | _=>simp only[kill];exact hk
theorem ZbR {α β:Type} (f:α→β) (l:List α) (a b:Nat):((l.map f).drop a).take b=((l.drop a).take b).map f:=by
 rw[← List.map_drop,← List.map_take]
theorem Zew (g:List Nat) (c:AV):Zc0 (Zy g c)=Zy g (Zc0 c):=by
 have aa:∀ v:AV,(∀ a b,v≠.bbuf a b)→Zc0 v=v:=fun v h'=>by cases v<;>first | rfl | exact absurd rfl (h' _ _)
 by_cases h' : ∃ a b,c=.bbuf a b
 ·obtain⟨a,b,rfl⟩:=h';rfl
 ·have h2:∀ a b,c≠.bbuf a b:=fun a b e=>h' ⟨a,b,e⟩;rw[aa c h2,aa];exact fun a b e=>h2 a b ((YP g c a b).1 e)
theorem Zld {g:List Nat} {cs:List AV} {a:Bool} {s off:Nat} {v:AV} (h:V7 a s off (some (.box cs))=some v) (ho:okV v=true) (hk:kill g v=v):V7 a s off (some (.box (cs.map (Zy g))))=some v:=by
 unfold V7 at h ⊢;cases a with
 | true=>
  simp only[Ki] at h ⊢;split at h
  ·rename_i hl;cases h;rw[Kw (by simpa using hl),ZbR,Zn9 ho hk]
  ·cases h
 | false=>
  simp only[Ka,Kh] at h ⊢;obtain⟨c,hc,rfl⟩:=Option.map_eq_some_iff.1 h;rw[Lc,hc];simp only[KN];rw[Zew,Zml ho hk]
theorem Zle {g:List Nat} {cs:List AV} {a:Bool} {s off:Nat} {v:AV} (h:V7 a s off (some (.box (cs.map (Zy g))))=some v) (ho:okV v=true):V7 a s off (some (.box cs))=some v∧kill g v=v:=by
 unfold V7 at h ⊢;cases a with
 | true=>
  simp only[Ki] at h ⊢;split at h
  ·rename_i hl;cases h;rw[ZbR] at ho ⊢;have he:=Zoa ho;rw[he] at ho ⊢;refine⟨by rw[Kw (by simpa using hl)],?_⟩;rcases ZaK ((cs.drop off).take s) with ⟨ds,h1,h2⟩ | ⟨h1,h2 | h2⟩
   ·rw[h2];rfl
   ·rw[h2] at ho;cases ho
   ·rw[h2] at ho ⊢;simp only[okV] at ho;have hm:=ZcV ho;simp only[kill,Zy,AV.agg.injEq];rw[Kz (g:=id),K9];intro c hc;have h3:Zy g c=c:=by
     refine Jf ?_;have h4:Zy g c∈((cs.drop off).take s).map (Zy g):=List.mem_map_of_mem hc;rw[he] at h4;exact Znf (hm _ h4)
    have:=hm c hc;cases c<;>first | exact h3 | cases this
  ·cases h
 | false=>
  simp only[Ka,Kh] at h ⊢;rw[Lc] at h;cases hc:cs[off]? with
  | none=>rw[hc] at h;cases h
  | some c=>
   rw[hc] at h;simp only[KN,Option.some.injEq] at h;rw[Zew] at h;have h3:Zy g (Zc0 c)=Zc0 c:=Jf (by rw[h];exact ho);rw[h3] at h;subst h;exact⟨rfl,Zmm ho h3⟩
theorem Zmn {g:List Nat} {o o' : Option Zh} (h:W6 g o o'):Yc o'=Yc o:=by
 cases o with
 | none=>cases o' with
  | none=>rfl
  | some o'=>cases h
 | some o=>cases o' with
  | none=>cases o<;>cases h
  | some o' =>
   have tr:∀ s n xs l,Yc (some (.tree s n xs (XW g l)))=Yc (some (.tree s n xs l)):=by
    intro s n xs l;rcases l with _ | ⟨_ | nm,_⟩
    ·rfl
    ·rfl
    ·simp only[XW];split<;>rfl
   cases o<;>cases o' <;> simp only[W6] at h<;>first | (cases h;done) | rfl | (obtain⟨rfl,rfl⟩:=h;rfl) | (obtain⟨rfl,rfl,rfl,rfl⟩:=h;exact tr _ _ _ _)
theorem W7 {g:List Nat} {o o' : Option Zh} (h:W6 g o o'):(∃ s xs e f e' f',o=some (.row s xs e f)∧o'=some (.row s xs e' f'))∨(o=none∧o'=none)∨(∃ cs,o=some (.box cs)∧o'=some (.box (cs.map (Zy g))))∨(o=some .gone∧o'=some .gone)∨(∃ s n xs l,o=some (.tree s n xs l)∧o'=some (.tree s n xs (XW g l))):=by
 cases o with
 | none=>cases o' with
  | none=>exact .inr (.inl ⟨rfl,rfl⟩)
  | some o'=>cases h
 | some o=>cases o' with
  | none=>cases o<;>cases h
  | some o' =>
   cases o with
   | box cs=>cases o' with
    | box cs'=>simp only[W6] at h;subst h;exact .inr (.inr (.inl ⟨cs,rfl,rfl⟩))
    | row _ _ _ _=>cases h
    | gone=>cases h
    | tree _ _ _ _=>cases h
   | row s xs e f=>cases o' with
    | box cs'=>cases h
    | row s' xs' e' f'=>simp only[W6] at h;obtain⟨rfl,rfl⟩:=h;exact .inl ⟨_,_,_,_,_,_,rfl,rfl⟩
    | gone=>cases h
    | tree _ _ _ _=>cases h
   | gone=>cases o' with
    | box cs'=>cases h
    | row _ _ _ _=>cases h
    | gone=>exact .inr (.inr (.inr (.inl ⟨rfl,rfl⟩)))
    | tree _ _ _ _=>cases h
   | tree s n xs l=>cases o' with
    | box cs'=>cases h
    | row _ _ _ _=>cases h
    | gone=>cases h
    | tree s' n' xs' l'=>simp only[W6] at h;obtain⟨rfl,rfl,rfl,rfl⟩:=h;exact .inr (.inr (.inr (.inr ⟨_,_,_,_,rfl,rfl⟩)))
section
variable {g:List Nat} {o o' : Option Zh}
theorem ZjL (h:W6 g o o') (sz id n:Nat):UD sz id n o'=UD sz id n o:=by
 rcases W7 h with ⟨s,xs,e,f,e',f',rfl,rfl⟩ | ⟨rfl,rfl⟩ | ⟨cs,rfl,rfl⟩ | ⟨rfl,rfl⟩ | ⟨s,n,xs,l,rfl,rfl⟩<;>rfl
theorem ZhY (h:W6 g o o') (sz id off m n:Nat):Uc sz id off m n o'=Uc sz id off m n o:=by
 rcases W7 h with ⟨s,xs,e,f,e',f',rfl,rfl⟩ | ⟨rfl,rfl⟩ | ⟨cs,rfl,rfl⟩ | ⟨rfl,rfl⟩ | ⟨s,n,xs,l,rfl,rfl⟩<;>rfl
theorem ZhZ (h:W6 g o o') (s id:Nat) (lo hi:Option AV):Ud s id lo hi o'=Ud s id lo hi o:=by
 rcases W7 h with ⟨s,xs,e,f,e',f',rfl,rfl⟩ | ⟨rfl,rfl⟩ | ⟨cs,rfl,rfl⟩ | ⟨rfl,rfl⟩ | ⟨s,n,xs,l,rfl,rfl⟩<;>rfl
theorem Zgy (h:W6 g o o') (s id off n:Nat) (lo hi:Option AV):VT s id off n lo hi o'=VT s id off n lo hi o:=by
 rcases W7 h with ⟨s,xs,e,f,e',f',rfl,rfl⟩ | ⟨rfl,rfl⟩ | ⟨cs,rfl,rfl⟩ | ⟨rfl,rfl⟩ | ⟨s,n,xs,l,rfl,rfl⟩<;>rfl
theorem ZjM {i off:Nat} {l:Option (Option Nat×Nat×Nat)} {x:D} {v:AV} (h:Vn i off l x=some v) (hk:kill g v=v):Vn i off (XW g l) x=some v:=by
 unfold Vn at h ⊢;split at h
 ·unfold ZeE at h;split at h
  ·rename_i nm i' c;split at h
   ·rename_i hc;cases h;have:g.contains nm=false:=by
     cases hg:g.contains nm with
     | false=>rfl
     | true=>simp only[kill,Zy,ZN,hg,Ki] at hk;cases hk
    simp only[XW,this,Ka,Kh,ZeE,hc,and_self,Ki]
   ·cases h
  ·cases h
 ·exact h
 ·cases h
theorem ZjN {i off:Nat} {l:Option (Option Nat×Nat×Nat)} {x:D} {v:AV} (h:Vn i off (XW g l) x=some v):Vn i off l x=some v∧kill g v=v:=by
 unfold Vn at h ⊢;split at h
 ·unfold ZeE at h;split at h
  ·rename_i nm i' c hl;split at h
   ·rename_i hc;cases h;unfold XW at hl;split at hl
    ·rename_i ab q;split at hl
     ·cases hl
     ·rename_i hg;cases hl;simp only[Bool.not_eq_true] at hg;exact⟨by simp only[ZeE,hc,and_self,Ki],by simp only[kill,Zy,ZN,hg,Ka,Kh]⟩
    ·rename_i aa;subst hl;exact absurd rfl (aa _ _)
   ·cases h
  ·cases h
 ·split at h
  ·rename_i hp;cases h;exact⟨by rw[Kw hp],rfl⟩
  ·cases h
 ·cases h
theorem ZcW {id:Nat} (h:W6 g o o') {a:Bool} {s sz i off:Nat} {v:AV}:(Vo id a s sz i off o=some v→kill g v=v→Vo id a s sz i off o'=some v)∧(Vo id a s sz i off o'=some v→Vo id a s sz i off o=some v∧kill g v=v):=by
 have aa:∀ {cs:List D},Ua a s off cs=some v→∃ d,v=.d d:=by
  intro cs h;unfold Ua at h;split at h
  ·split at h
   ·cases h;exact⟨_,rfl⟩
   ·cases h
  ·unfold asD at h;obtain⟨y,_,h⟩:=Za h;cases h;exact⟨_,rfl⟩
 rcases W7 h with ⟨s,xs,e,f,e',f',rfl,rfl⟩ | ⟨rfl,rfl⟩ | ⟨cs,rfl,rfl⟩ | ⟨rfl,rfl⟩ | ⟨s,n,xs,l,rfl,rfl⟩
 ·refine⟨fun h _=>h,fun h=>⟨h,?_⟩⟩;simp only[Vo] at h;split at h
  ·obtain⟨x,_,h⟩:=Za h;unfold Zc1 at h;split at h
   ·obtain⟨d,rfl⟩:=aa h;rfl
   ·cases h
  ·cases h
 ·exact⟨fun h _=>(by cases h),fun h=>(by cases h)⟩
 ·exact⟨fun h _=>(by cases h),fun h=>(by cases h)⟩
 ·exact⟨fun h _=>(by cases h),fun h=>(by cases h)⟩
 ·simp only[Vo];split
  ·split
   ·exact⟨fun h _=>(by cases h),fun h=>(by cases h)⟩
   ·constructor
    ·intro hh hk;obtain⟨x,h1,hh⟩:=Za hh;rw[h1,Zc];exact ZjM hh hk
    ·intro hh;obtain⟨x,h1,hh⟩:=Za hh;rw[h1,Zc];exact ZjN hh
  ·exact⟨fun h _=>(by cases h),fun h=>(by cases h)⟩
end
section
variable {hp hp' : Hp} {g:List Nat}
def ZcX (g:List Nat) (hp hp' : Hp) (v:AV):Prop:=∀ k∈Zl v,W6 g (lkp hp k) (lkp hp' k)
theorem Jg {v:AV} (h:ZcX g hp hp' v):UY hp' v=UY hp v:=by
 cases v<;>simp only[UY]
 case d x=>cases x<;>rfl
 case own id=>rw[Zmn (h id (by simp[Zl,Zn,Ze]))]
theorem Wq {v:AV} (h:ZcX g hp hp' v) (sz n:Nat):Z8 hp' sz n v=Z8 hp sz n v:=by
 cases v<;>simp only[Z8]
 case d x=>cases x<;>rfl
 case own id=>rw[ZjL (h id (by simp[Zl,Zn,Ze]))]
 case ownv id off n=>rw[ZhY (h id (by simp[Zl,Zn,Ze]))]
theorem ZaL {v:AV} (h:ZcX g hp hp' v) (s:Nat) (lo hi:Option AV):XE hp' s lo hi v=XE hp s lo hi v:=by
 cases v<;>simp only[XE]
 case d x=>cases x<;>rfl
 case own id=>rw[ZhZ (h id (by simp[Zl,Zn,Ze]))]
 case ownv id off n=>rw[Zgy (h id (by simp[Zl,Zn,Ze]))]
theorem Zob {x v:AV} (hs:ZcX g hp hp' x) {a:Bool} {s:Nat} (h:YD hp a s x=some v) (ho:okV v=true) (hk:kill g v=v):YD hp' a s x=some v:=by
 cases x<;>simp only[YD] at h ⊢ <;> first | (cases h;done) | skip
 case ptr id off=>
  rcases W7 (hs id (by simp[Zl,Zn,Ze])) with ⟨_,_,_,_,_,_,e1,e2⟩ | ⟨e1,e2⟩ | ⟨cs,e1,e2⟩ | ⟨e1,e2⟩ | ⟨_,_,_,_,e1,e2⟩
  ·rw[e1] at h;cases h
  ·rw[e1] at h;cases h
  ·rw[e1] at h;rw[e2];exact Zld h ho hk
  ·rw[e1] at h;cases h
  ·rw[e1] at h;cases h
 case prow id sz i off=>exact(ZcW (hs id (by simp[Zl,Zn,Ze]))).1 h hk
 case pim cs=>exact h
theorem Zpy {a:Bool} {s off:Nat} {cs:List D} {v:AV} (h:Ua a s off cs=some v):∃ d,v=.d d:=by
 unfold Ua at h;split at h
 ·split at h
  ·cases h;exact⟨_,rfl⟩
  ·cases h
 ·unfold asD at h;obtain⟨y,_,h⟩:=Za h;cases h;exact⟨_,rfl⟩
theorem Zoc {x v:AV} (hs:ZcX g hp hp' x) {a:Bool} {s:Nat} (h:YD hp' a s x=some v) (ho:okV v=true):YD hp a s x=some v∧kill g v=v:=by
 cases x<;>simp only[YD] at h ⊢ <;> first | (cases h;done) | skip
 case ptr id off=>
  rcases W7 (hs id (by simp[Zl,Zn,Ze])) with ⟨_,_,_,_,_,_,e1,e2⟩ | ⟨e1,e2⟩ | ⟨cs,e1,e2⟩ | ⟨e1,e2⟩ | ⟨_,_,_,_,e1,e2⟩
  ·rw[e2] at h;cases h
  ·rw[e2] at h;cases h
  ·rw[e2] at h;rw[e1];exact Zle h ho
  ·rw[e2] at h;cases h
  ·rw[e2] at h;cases h
 case prow id sz i off=>
  exact(ZcW (hs id (by simp[Zl,Zn,Ze]))).2 h
 case pim cs=>
  obtain⟨d,rfl⟩:=Zpy h;exact⟨h,rfl⟩
theorem Zex {x:AV} {d:D} {e:Bool} (h:Wx hp x=some (d,e,[])) (hp' : Hp):Wx hp' x=some (d,e,[]):=by
 cases x<;>simp only[Wx] at h ⊢ <;> first | exact h | skip
 case own id=>obtain⟨q,_,h⟩:=Za h;simp at h
theorem Zey:∀ {xs:List AV} {d:List D} {e:Bool},XH hp xs=some (d,e,[])→∀ hp' : Hp,XH hp' xs=some (d,e,[])
 | [],d,e,h,hp'=>h
 | x :: xs,d,e,h,hp'=>by
  simp only[XH] at h ⊢;obtain⟨⟨d1,e1,l1⟩,h1,h⟩:=Za h;obtain⟨⟨d2,e2,l2⟩,h2,h⟩:=Za h;have hl:l1=[]∧l2=[]:=by
   simp only at h;split at h
   ·simp only[Option.some.injEq,Prod.mk.injEq,List.append_eq_nil_iff] at h;exact h.2.2
   ·cases h
  obtain⟨rfl,rfl⟩:=hl;rw[Zex h1 hp',Zc,Zey h2 hp',Zc];exact h
theorem Zmo {x:AV} {d:D} {e:Bool} (h:give hp x=some (d,e,[])) (hp' : Hp):give hp' x=some (d,e,[]):=by
 cases x<;>simp only[give] at h ⊢ <;> first | exact Zex h hp' | skip
 case agg cs=>
  obtain⟨⟨d1,e1,l1⟩,h1,h⟩:=Za h;simp only[Option.some.injEq,Prod.mk.injEq] at h;obtain⟨rfl,rfl,rfl⟩:=h;rw[Zey h1 hp',Zc]
theorem ZbS:∀ {xs:List AV} {d:List D} {e:Bool},Yd hp xs=some (d,e,[])→∀ hp' : Hp,Yd hp' xs=some (d,e,[])
 | [],d,e,h,hp'=>h
 | x :: xs,d,e,h,hp'=>by
  simp only[Yd] at h ⊢;obtain⟨⟨d1,e1,l1⟩,h1,h⟩:=Za h;obtain⟨⟨d2,e2,l2⟩,h2,h⟩:=Za h;have hl:l1=[]∧l2=[]:=by
   simp only at h;split at h
   ·simp only[Option.some.injEq,Prod.mk.injEq,List.append_eq_nil_iff] at h;exact h.2.2
   ·cases h
  obtain⟨rfl,rfl⟩:=hl;rw[Zmo h1 hp',Zc,ZbS h2 hp',Zc];exact h
theorem ZbT {base s:Nat} {vs:List AV} {ce:Zb} (h:buildSl hp base s vs=some ce) (hf:ce.eff.frz=[]) (hp' : Hp) :
  buildSl hp' base s vs=some ce∧(ce.eff.val=.nil∨ce.eff.val=.own base)∧(∀ k o,(k,o)∈ce.eff.adds→∃ sz xs e f,o=.row sz xs e f):=by
 cases vs with
 | nil=>simp only[buildSl,Qj] at h ⊢;cases h;exact⟨rfl,.inl rfl,fun k o h=>by simp at h⟩
 | cons v vs=>
  simp only[buildSl] at h ⊢;obtain⟨⟨ds,e,l⟩,h1,h⟩:=Za h;unfold Zor at h;split at h
  ·rename_i hc;cases h;simp only at hf;subst hf;rw[ZbS h1 hp',Zc];refine⟨?_,.inr rfl,fun k o ho=>?_⟩
   ·unfold Zor;rw[Kw hc]
   ·simp at ho;obtain⟨rfl,rfl⟩:=ho;exact⟨_,_,_,_,rfl⟩
  ·cases h
end
theorem ZcY {C:Orc} {M:Zf} {sl:Sl} {hp hp' : Hp} {base:Nat} {c:COp} (hc:X6 c=true):vop C M sl hp base c=vop C M sl hp' base c:=by
 cases c<;>first | rfl | (simp[X6] at hc)
section
variable {C:Orc} {M:Zf} {sl sl' : Sl} {hp hp' : Hp} {base:Nat} {g:List Nat}
theorem ZK {v:AV} {ce:Zb} (h:Qj v=some ce):ce.eff.adds=[]:=by cases h;rfl
theorem Qi {v:Option AV} {ce:Zb} (h:XF v=some ce):ce.eff.adds=[]:=by obtain⟨v,_,h⟩:=Za h;exact ZK h
theorem Wh {v:Option AV} {ce:Zb} (h:XF v=some ce):v=some ce.eff.val:=by obtain⟨v,rfl,h⟩:=Za h;cases h;rfl
theorem Znh {v:Option AV} {ce:Zb} {w:Option AV} (h:XF v=some ce) (hw:w=some ce.eff.val):XF w=some ce:=by
 obtain⟨v,rfl,h⟩:=Za h;cases h;rw[hw];rfl
theorem Zmp {c:COp} (hc:X6 c=true) (hv:ZmH c=true) {ce:Zb} (h:vop C M sl hp base c=some ce):ce.eff.adds=[]:=by
 cases c<;>simp only[X6,ZmH,Ka] at hc hv<;>simp only[vop] at h
 case stuck=>cases h
 case move x=>exact ZK h
 case pick c a b=>
  unfold ZaW at h;split at h
  ·split at h<;>exact ZK h
  ·cases h
 case build zs ps=>obtain⟨cs,_,h⟩:=Za h;exact ZK h
 case nilCheck x=>unfold VU at h;split at h<;>first | exact ZK h | cases h
 case bin op eq x y=>
  unfold ZgO at h;split at h
  ·split at h
   ·exact Qi h
   ·cases h
  ·exact Qi h
 case un op x=>exact Qi h
 case eqA neg n x y=>
  unfold ZjX at h;split at h
  ·obtain⟨r,_,h⟩:=Za h;exact ZK h
  ·cases h
 case convI k x=>unfold Go.Abs.convI at h;split at h<;>first | exact ZK h | cases h
 case convS x=>unfold Go.Abs.convS at h;split at h<;>first | exact ZK h | cases h
 case sliceS x lo hi=>exact Qi h
 case shift off x=>unfold X4 at h;split at h<;>first | exact ZK h | cases h
 case part g s off x=>exact Qi h
 case iaA len s x i=>
  obtain⟨n,_,h⟩:=Za h;unfold ZgQ at h;split at h
  ·unfold X4 at h;split at h<;>first | exact ZK h | cases h
  ·cases h
 case ixS x i=>
  obtain⟨n,_,h⟩:=Za h;unfold Zmy at h;split at h
  ·unfold Zls at h;split at h
   ·obtain⟨b,_,h⟩:=Za h;exact ZK h
   ·cases h
  ·cases h
 case ixA g s len x i=>
  obtain⟨n,_,h⟩:=Za h;unfold Zos at h;split at h
  ·exact Qi h
  ·cases h
 case nth i x=>unfold Zlt at h;split at h<;>first | exact Qi h | cases h
 case lenS x=>obtain⟨n,_,h⟩:=Za h;exact ZK h
 case min x y=>unfold ZeF at h;split at h<;>first | (split at h<;>first | exact ZK h | cases h) | cases h
 case max x y=>unfold ZeG at h;split at h<;>first | (split at h<;>first | exact ZK h | cases h) | cases h
theorem Zez {c:AV} (h:U4 c=true):Zy g c=c:=by cases c<;>first | rfl | cases h
theorem JR:∀ {cs:List AV},Xx cs=true→∀ c∈cs,U4 c=true
 | [],_,c,hc=>by simp at hc
 | x :: l,h,c,hc=>by
  simp only[Xx,Kb] at h;rcases Ke.1 hc with rfl | hc
  ·exact h.1
  ·exact JR h.2 c hc
theorem ZdP:∀ (slc:List (Option Nat)) (cs:List AV) (b:Nat),(∀ c∈(mat slc cs b).1,c∈cs∨∃ k o,c=.own k∧(k,o)∈(mat slc cs b).2)∧∀ k o,(k,o)∈(mat slc cs b).2→∃ sz,o=.row sz [] true false
 | [],cs,b=>by simp only[mat];exact⟨fun c hc=>.inl hc,fun k o h=>by simp at h⟩
 | t :: ts,[],b=>by cases t<;>(simp only[mat];exact⟨fun c hc=>.inl hc,fun k o h=>by simp at h⟩)
 | t :: ts,v :: vs,b=>by
  by_cases hv:(∃ sz,t=some sz)∧v=.nil
  ·obtain⟨⟨sz,rfl⟩,rfl⟩:=hv;obtain⟨h1,h2⟩:=ZdP ts vs (b+1);simp only[mat];refine⟨fun c hc=>?_,fun k o h=>?_⟩
   ·rcases Ke.1 hc with rfl | hc
    ·exact .inr ⟨b,_,rfl,KU ..⟩
    ·rcases h1 c hc with h | ⟨k,o,e,h⟩
     ·exact .inl (Km _ h)
     ·exact .inr ⟨k,o,e,Km _ h⟩
   ·rcases Ke.1 h with h | h
    ·cases h;exact⟨_,rfl⟩
    ·exact h2 k o h
  ·obtain⟨h1,h2⟩:=ZdP ts vs b;have e:mat (t :: ts) (v :: vs) b=(v :: (mat ts vs b).1,(mat ts vs b).2):=by
    cases t with
    | none=>simp[mat]
    | some sz=>cases v<;>first | (exact absurd ⟨⟨sz,rfl⟩,rfl⟩ hv) | simp[mat]
   rw[e];refine⟨fun c hc=>?_,h2⟩;rcases Ke.1 hc with rfl | hc
   ·exact .inl (KU ..)
   ·rcases h1 c hc with h | h
    ·exact .inl (Km _ h)
    ·exact .inr h
theorem Zis {base:Nat}:∀ {cs:List AV},Xx cs=true→cs.map (Zcq base)=cs
 | [],_=>rfl
 | c :: cs,h=>by
  simp only[Xx,Kb] at h;rw[Ks,Zis h.2];congr 1
  cases c<;>first | rfl | (simp[U4] at h)
theorem Zit:∀ {cs:List AV},Xx cs=true→QK cs=true
 | [],_=>rfl
 | c :: cs,h=>by
  simp only[Xx,Kb] at h;have:=Zit h.2;cases c<;>first | exact this | (simp[U4] at h)
theorem ZeA {slc:List (Option Nat)} {cs:List AV} {ce:Zb} (hb:∀ k,base≤k→k<base+64→k∉g) (hc:Xx cs=true) (h:ZaX slc base cs=some ce) (ad:Qp base (base+64) ce.eff.adds=true) :
  (∀ id∈Zl ce.eff.val,id∉g)∧∀ k o,(k,o)∈ce.eff.adds→QA g o=o:=by
 have hr:=Y2 ad;unfold ZaX at h;rw[Zis hc] at h;unfold ZgM at h;rw[Ko (by rw[Zit hc];decide)] at h;split at h
 ·cases h;simp only at hr ⊢;obtain⟨h1,h2⟩:=ZdP slc cs (base+1);refine⟨fun id aa=>?_,fun k o hm=>?_⟩
  ·simp[Zl,Zn,Ze] at aa;subst aa;exact hb _ (Kf _) (by omega)
  ·rcases Ke.1 hm with hm | hm
   ·cases hm;simp only[QA];congr 1
    rw[Kz (g:=id),K9];intro c ab;rcases h1 c ab with h | ⟨k,o,rfl,h⟩
    ·exact Zez (JR hc c h)
    ·have:=hr k o (Km _ h);have hk:=hb k this.1 this.2;simp[Zy,ZN,hk]
   ·obtain⟨sz,rfl⟩:=h2 k o hm;rfl
 ·cases h;simp only at hr ⊢;refine⟨fun id aa=>?_,fun k o hm=>?_⟩
  ·simp[Zl,Zn,Ze] at aa;subst aa;exact hb _ (Kf _) (by omega)
  ·simp at hm;obtain⟨rfl,rfl⟩:=hm;simp only[QA];congr 1
   rw[Kz (g:=id),K9];exact fun c ab=>Zez (JR hc c ab)
theorem Zod {c:COp} (hc:Zg3 c=true) (he:∀ x∈Zq c,evO sl' x=evO sl x) (hs:∀ x∈Zq c,ZcX g hp hp' (evO sl x)) {ce:Zb}
  (hb:∀ k,base≤k→k<base+64→k∉g) (h:vop C M sl hp base c=some ce) (ab:Qp base (base+64) ce.eff.adds=true) (ad:ce.eff.frz=[]) (ho:okV ce.eff.val=true) (hk:kill g ce.eff.val=ce.eff.val):vop C M sl' hp' base c=some ce∧∀ k o,(k,o)∈ce.eff.adds→QA g o=o:=by
 rw[Qt C M hp' base he];have aa:ce.eff.adds=[]→∀ k o,(k,o)∈ce.eff.adds→QA g o=o:=fun e k o hm=>by rw[e] at hm;simp at hm
 simp only[Zg3,La,Kb] at hc;rcases hc with ((hc | hc) | ⟨hc1,hc2⟩) | hc
 ·cases c<;>simp only[Vu,Ka] at hc<;>simp only[vop] at h ⊢ <;> simp only[Zq] at hs
  case load a s x=>exact⟨Znh h (Zob (hs x (by simp)) (Wh h) ho hk),aa (Qi h)⟩
  case slice s x lo hi=>
   rw[ZaL (hs x (by simp))];exact⟨h,aa (Qi h)⟩
  case slice0 x hi mx=>
   unfold slice0 at h ⊢;rw[Jg (hs x (by simp))];exact⟨h,aa (Qi h)⟩
  case iaS s x i=>
   obtain⟨n,h1,h⟩:=Za h;rw[h1,Zc];unfold ZbY at h ⊢;rw[Wq (hs x (by simp))];refine⟨h,aa ?_⟩;split at h
   ·exact Qi h
   ·cases h
  case len x=>
   rw[Jg (hs x (by simp))];refine⟨h,aa ?_⟩;obtain⟨n,_,h⟩:=Za h;exact ZK h
 ·cases c<;>simp only[ZiM,Ka] at hc
  simp only[vop] at h ⊢;obtain⟨h1,h2,h3⟩:=ZbT h ad hp';refine⟨h1,fun k o hm=>?_⟩;obtain⟨sz,xs,e,f,rfl⟩:=h3 k o hm;rfl
 ·rw[← ZcY (hp:=hp) hc1];exact⟨h,aa (Zmp hc1 hc2 h)⟩
 ·cases c<;>simp only[Zfj,Ka] at hc
  simp only[vop] at h ⊢;exact⟨h,(ZeA hb hc h ab).2⟩
theorem Zmq {c:COp} (hc:Zde c=true) (he:∀ x∈Zq c,evO sl' x=evO sl x) (hs:∀ x∈Zq c,ZcX g hp hp' (evO sl x)) {ce:Zb}
  (hn:∀ x∈Zq c,∀ id∈Zl (evO sl x),id∉g) (hb:∀ k,base≤k→k<base+64→k∉g)
  (h:vop C M sl' hp' base c=some ce) (ad:Qp base (base+64) ce.eff.adds=true) (ae:ce.eff.frz=[]) (ho:okV ce.eff.val=true):vop C M sl hp base c=some ce∧kill g ce.eff.val=ce.eff.val∧∀ k o,(k,o)∈ce.eff.adds→QA g o=o:=by
 rw[Qt C M hp' base he] at h;have aa:ce.eff.adds=[]→∀ k o,(k,o)∈ce.eff.adds→QA g o=o:=fun e k o hm=>by rw[e] at hm;simp at hm
 have names:(∀ id∈Zl ce.eff.val,id∉g)→kill g ce.eff.val=ce.eff.val:=Zng ho;cases c<;>simp only[Zde,Ka] at hc<;>simp only[vop] at h ⊢ <;> simp only[Zq] at hs hn
 case alloc slc cs=>
  obtain⟨h1,h2⟩:=ZeA hb hc h ad;exact⟨h,names h1,h2⟩
 case buildSl s xs=>
  obtain⟨h1,h2,h3⟩:=ZbT h ae hp;refine⟨h1,names fun id ab=>?_,fun k o hm=>?_⟩
  ·rcases h2 with h2 | h2
   ·rw[h2] at ab;simp[Zl,Zn,Ze] at ab
   ·rw[h2] at ab;simp[Zl,Zn,Ze] at ab;subst ab;exact hb _ (Kf _) (by omega)
  ·obtain⟨sz,xs,e,f,rfl⟩:=h3 k o hm;rfl
 case load a s x=>
  obtain⟨h1,h2⟩:=Zoc (hs x (by simp)) (Wh h) ho;exact⟨Znh h h1,h2,aa (Qi h)⟩
 case nilCheck x=>
  have hx:=hn x (by simp);refine⟨h,names ?_,aa ?_⟩
  ·unfold VU at h;split at h<;>rename_i hv<;>first | (cases h;done) | (cases h;show ∀ id∈Zl _,_;rw[← hv];exact hx)
  ·unfold VU at h;split at h<;>first | exact ZK h | cases h
 case bin op eq x y=>
  have hd:∃ d,ce.eff.val=.d d:=by
   have o2:∀ {a b:AV},XF (vbin op a b)=some ce→∃ d,ce.eff.val=.d d:=fun {a b} h=>by
    have h1:=Wh h;unfold vbin at h1;split at h1
    ·unfold VN at h1;split at h1
     ·obtain⟨y,_,h1⟩:=Za h1;exact⟨_,(Option.some.inj h1).symm⟩
     ·obtain⟨y,_,h1⟩:=Za h1;exact⟨_,(Option.some.inj h1).symm⟩
     ·split at h1
      ·obtain⟨y,_,h1⟩:=Za h1;have:=Option.some.inj h1;exact⟨_,this.symm⟩
      ·cases h1
    ·obtain⟨y,_,h1⟩:=Za h1;have:=Option.some.inj h1;exact⟨_,this.symm⟩
    ·cases h1
   unfold ZgO at h;split at h
   ·split at h
    ·have h1:=Wh h;unfold Zif at h1;split at h1
     ·exact⟨_,(Option.some.inj h1).symm⟩
     ·exact⟨_,(Option.some.inj h1).symm⟩
     ·cases h1
    ·cases h
   ·exact o2 h
  obtain⟨d,hd⟩:=hd;refine⟨h,by rw[hd];rfl,aa ?_⟩;unfold ZgO at h;split at h
  ·split at h
   ·exact Qi h
   ·cases h
  ·exact Qi h
 case un op x=>
  have hd:∃ d,ce.eff.val=.d d:=by
   have h1:=Wh h;unfold vun at h1;split at h1
   ·unfold neg1 at h1;split at h1
    ·exact⟨_,(Option.some.inj h1).symm⟩
    ·cases h1
   ·unfold not1 at h1;split at h1
    ·exact⟨_,(Option.some.inj h1).symm⟩
    ·cases h1
   ·cases h1
  obtain⟨d,hd⟩:=hd;exact⟨h,by rw[hd];rfl,aa (Qi h)⟩
 case convI k x=>
  unfold Go.Abs.convI at h ⊢;split at h
  ·exact⟨h,by cases h;rfl,aa (ZK h)⟩
  ·cases h
 case shift off x=>
  have hx:=hn x (by simp);refine⟨h,names ?_,aa ?_⟩
  ·unfold X4 at h;split at h<;>rename_i hv<;>first | (cases h;done) | skip
   ·cases h;rw[hv] at hx;simpa [Zl,Zn,Ze] using hx
   ·cases h;rw[hv] at hx;simpa [Zl,Zn,Ze] using hx
   ·cases h;simp[Zl,Zn,Ze]
  ·unfold X4 at h;split at h<;>first | exact ZK h | cases h
 case slice s x lo hi=>
  have hx:=hn x (by simp);rw[ZaL (hs x (by simp))] at h;refine⟨h,names ?_,aa (Qi h)⟩;have h1:=Wh h;cases hv:evO sl x<;>rw[hv] at h1 hx<;>simp only[XE] at h1<;>first | (cases h1;done) | skip
  case d y=>
   cases y<;>simp only[XE] at h1<;>first | (cases h1;done) | skip
   split at h1
   ·obtain⟨b,_,h1⟩:=Za h1;rw[← Option.some.inj h1];simp[Zl,Zn,Ze]
   ·cases h1
  case nil=>obtain⟨b,_,h1⟩:=Za h1;rw[← Option.some.inj h1];simp[Zl,Zn,Ze]
  case own id=>
   unfold Ud at h1;split at h1
   ·split at h1
    ·unfold Zlq at h1;split at h1
     ·rw[← Option.some.inj h1];exact hx
     ·obtain⟨b,_,h1⟩:=Za h1;rw[← Option.some.inj h1];simpa [Zl,Zn,Ze] using hx
    ·cases h1
   ·cases h1
  case ownv id off n=>
   unfold VT at h1;split at h1
   ·split at h1
    ·obtain⟨b,_,h1⟩:=Za h1;rw[← Option.some.inj h1];simpa [Zl,Zn,Ze] using hx
    ·cases h1
   ·cases h1
 case sliceS x lo hi=>
  have hd:∃ d,ce.eff.val=.d d:=by
   have h1:=Wh h;unfold sliceS at h1;split at h1
   ·obtain⟨b,_,h1⟩:=Za h1;exact⟨_,(Option.some.inj h1).symm⟩
   ·cases h1
  obtain⟨d,hd⟩:=hd;exact⟨h,by rw[hd];rfl,aa (Qi h)⟩
 case lenS x=>
  obtain⟨n,h1,h⟩:=Za h;refine⟨by rw[h1,Zc];exact h,by cases h;rfl,aa (ZK h)⟩
 case iaS s x i=>
  have hx:=hn x (by simp);obtain⟨n,h1,h⟩:=Za h;rw[h1,Zc];unfold ZbY at h ⊢;rw[Wq (hs x (by simp))] at h;refine⟨h,names ?_,aa ?_⟩
  ·split at h
   ·have h1:=Wh h;cases hv:evO sl x<;>rw[hv] at h1 hx<;>simp only[Z8] at h1<;>first | (cases h1;done) | skip
    case d y=>
     cases y<;>simp only[Z8] at h1<;>first | (cases h1;done) | skip
     obtain⟨b,_,h1⟩:=Za h1;unfold Znq at h1;split at h1
     ·rw[← Option.some.inj h1];simp[Zl,Zn,Ze]
     ·cases h1
    case own id=>
     unfold UD at h1;split at h1
     ·split at h1
      ·rw[← Option.some.inj h1];simpa [Zl,Zn,Ze] using hx
      ·cases h1
     ·split at h1
      ·rw[← Option.some.inj h1];simpa [Zl,Zn,Ze] using hx
      ·cases h1
     ·cases h1
    case ownv id off n=>
     unfold Uc at h1;split at h1
     ·split at h1
      ·rw[← Option.some.inj h1];simpa [Zl,Zn,Ze] using hx
      ·cases h1
     ·cases h1
   ·cases h
  ·split at h
   ·exact Qi h
   ·cases h
 case len x=>
  rw[Jg (hs x (by simp))] at h;obtain⟨n,h1,h2⟩:=Za h;exact⟨h,by cases h2;rfl,aa (ZK h2)⟩
end
end Go.Abs
