/- Own text. -/
import Derived.Test.YtnachaiejoflhaaAbsDraw3
import Derived.Test.YtnachaiejoflhaaAbsSound5
set_option linter.unusedVariables false
set_option linter.unusedSimpArgs false
namespace Go.Abs
open Go
theorem ZpI {v:AV} (h:okC v=true):okV v=true:=by
 cases v<;>first | exact h | cases h
theorem Zft {g:List Nat} {v:AV} (h:okC (ZT g v)=true):ZT g v=v:=by
 cases v<;>simp only[ZT] at h ⊢ <;> first | rfl | (split at h<;>rename_i h' <;> first | (cases h;done) | rw[Kn h'])
theorem ZdV {g:List Nat}:∀ {cs:List AV},ZlV (cs.map (ZT g))=true→cs.map (ZT g)=cs
 | [],_=>rfl
 | c :: cs,h=>by
  simp only[Kx,ZlV,Kb] at h ⊢;rw[Zft h.1,ZdV h.2]
theorem Zat {g:List Nat} {v:AV} (h:okV (ZG g v)=true):ZG g v=v:=by
 cases v with
 | agg cs=>simp only[ZG,okV] at h ⊢;rw[ZdV h]
 | clo f cs=>simp only[ZG,okV,okC] at h;cases h
 | tup vs=>rfl
 | _=>
  simp only[ZG] at h ⊢;refine Zft ?_;revert h;simp only[ZT]
  first | exact id | (split<;>first | exact id | (intro h;cases h))
theorem UR {g:List Nat} {v:AV} (h:okV (kill g v)=true):kill g v=v:=by
 cases v with
 | tup vs=>
  cases vs with
  | nil=>rfl
  | cons x r=>simp only[kill,Kx,okV,okC] at h;cases h
 | _=>simp only[kill] at h ⊢;exact Zat h
theorem ZmZ {g:List Nat} {v:AV} (hn:∀ id∈Zi v,id∉g):ZT g v=v:=by
 cases v<;>simp only[ZT]<;>first | rfl | (rw[Kn];simpa [Zi] using hn)
theorem ZpJ {g:List Nat} {v:AV} (h:okV v=true) (hn:∀ id∈Zo v,id∉g):kill g v=v:=by
 cases v with
 | tup vs=>
  cases vs with
  | nil=>rfl
  | cons x r=>simp only[okV,okC] at h;cases h
 | clo f cs=>simp only[okV,okC] at h;cases h
 | agg cs=>
  simp only[kill,ZG];congr 1
  rw[KB (g:=id),Lb];intro c hc;exact ZmZ fun id aa=>hn id (by simp only[Zo,Zs,Kk];exact⟨c,hc,aa⟩)
 | _=>simp only[kill,ZG];exact ZmZ hn
theorem ZrH {g:List Nat} {v:AV} (h:kill g v=v):∀ id∈Zo v,id∉g:=fun id aa=>(Zkl g v id (by rw[h];exact aa)).2
theorem Zqz {g:List Nat} {c:AV} (h:okC c=true) (h1:ZT g c=c):ZG g c=c:=by
 cases c<;>simp only[ZG]<;>first | exact h1 | cases h
def US (g:List Nat):Option Zk→Option Zk→Prop
 | none,none=>True
 | some (.row s xs _ _),some (.row s' xs' _ _)=>s'=s∧xs'=xs
 | some (.box cs),some (.box cs')=>cs'=cs.map (ZG g)
 | some (.tree s n xs l),some (.tree s' n' xs' l')=>s'=s∧n'=n∧xs'=xs∧l'=Yv g l
 | some .gone,some .gone=>True
 | _,_=>False
theorem Zm0 {g:List Nat} {b:Bool} (o:Option Zk):US g o ((o.map (QH g)).map fun o=>if b then XM o else o):=by
 cases o with
 | none=>trivial
 | some o=>cases o<;>cases b<;>exact(by first | exact⟨rfl,rfl⟩ | exact rfl | exact⟨rfl,rfl,rfl,rfl⟩ | exact trivial)
theorem Zkw {g:List Nat}:∀ {l:List AV} {ds:List D},ZaL l=some ds→l.map (ZG g)=l
 | [],ds,_=>rfl
 | v :: l,ds,h=>by
  simp only[ZaL] at h;obtain⟨x,h1,h⟩:=Za h;obtain⟨aa,h2,h⟩:=Za h;have:ZG g v=v:=by cases v<;>first | rfl | cases h1
  rw[Kx,this,Zkw h2]
theorem ZhN {g:List Nat}:∀ {l:List AV} {ds:List D},ZaL (l.map (ZG g))=some ds→l.map (ZG g)=l
 | [],ds,_=>rfl
 | v :: l,ds,h=>by
  simp only[Kx,ZaL] at h;obtain⟨x,h1,h⟩:=Za h;obtain⟨aa,h2,h⟩:=Za h;have hv:ZG g v=v:=by
   refine Zat ?_;cases hk:ZG g v<;>rw[hk] at h1<;>first | rfl | cases h1
  rw[Kx,hv,ZhN h2]
theorem Zb0 (l:List AV):(∃ ds,ZaL l=some ds∧VV l=.d (.agg ds))∨(ZaL l=none∧(VV l=.junk∨VV l=.agg l)):=by
 unfold VV;cases h:ZaL l with
 | some ds=>exact .inl ⟨ds,rfl,rfl⟩
 | none=>
  refine .inr ⟨rfl,?_⟩;unfold Vt;split
  ·rename_i h;cases h
  ·split
   ·exact .inl rfl
   ·exact .inr rfl
theorem ZeC:∀ {l:List AV},ZlV l=true→∀ c∈l,okC c=true
 | [],_,c,hc=>by simp at hc
 | x :: l,h,c,hc=>by
  simp only[ZlV,Kb] at h;rcases Kf.1 hc with rfl | hc
  ·exact h.1
  ·exact ZeC h.2 c hc
theorem ZqA {g:List Nat} {l:List AV} (h:okV (VV l)=true) (hk:kill g (VV l)=VV l):l.map (ZG g)=l:=by
 rcases Zb0 l with ⟨ds,h1,h2⟩ | ⟨h1,h2 | h2⟩
 ·exact Zkw h1
 ·rw[h2] at h;cases h
 ·rw[h2] at h hk;simp only[kill,ZG,AV.agg.injEq] at hk;simp only[okV] at h;have hm:=ZeC h;have aa : ∀ c∈l,ZT g c=c:=by
   intro c hc;have:=ZdV (g:=g) (cs:=l) (by rw[hk];exact h);exact Zft (by
    have h3:ZT g c∈l.map (ZT g):=List.mem_map_of_mem hc;rw[hk] at h3;exact hm _ h3)
  rw[KB (g:=id),Lb];intro c hc;exact Zqz (hm c hc) (aa c hc)
theorem ZqB {g:List Nat} {l:List AV} (h:okV (VV (l.map (ZG g)))=true):l.map (ZG g)=l:=by
 rcases Zb0 (l.map (ZG g)) with ⟨ds,h1,h2⟩ | ⟨h1,h2 | h2⟩
 ·exact ZhN h1
 ·rw[h2] at h;cases h
 ·rw[h2] at h;simp only[okV] at h;have hm:=ZeC h;rw[KB (g:=id),Lb];intro c hc;exact Zat (ZpI (hm _ (List.mem_map_of_mem hc)))
theorem ZoE {g:List Nat} {v:AV} (h:okV v=true) (hk:kill g v=v):ZG g v=v:=by
 cases v with
 | tup vs=>rfl
 | _=>simp only[kill] at hk;exact hk
theorem ZoF {g:List Nat} {v:AV} (h:okV v=true) (hk:ZG g v=v):kill g v=v:=by
 cases v with
 | tup vs=>
  cases vs with
  | nil=>rfl
  | cons x r=>simp only[okV,okC] at h;cases h
 | _=>simp only[kill];exact hk
theorem Zdw {α β:Type} (f:α→β) (l:List α) (a b:Nat):((l.map f).drop a).take b=((l.drop a).take b).map f:=by
 rw[← List.map_drop,← List.map_take]
theorem Zgn (g:List Nat) (c:AV):ZeH (ZG g c)=ZG g (ZeH c):=by
 have aa:∀ v:AV,(∀ a b,v≠.bbuf a b)→ZeH v=v:=fun v h'=>by cases v<;>first | rfl | exact absurd rfl (h' _ _)
 by_cases h' : ∃ a b,c=.bbuf a b
 ·obtain⟨a,b,rfl⟩:=h';rfl
 ·have h2:∀ a b,c≠.bbuf a b:=fun a b e=>h' ⟨a,b,e⟩;rw[aa c h2,aa];exact fun a b e=>h2 a b ((VF g c a b).1 e)
theorem Zm1 {g:List Nat} {cs:List AV} {a:Bool} {s off:Nat} {v:AV} (h:WZ a s off (some (.box cs))=some v) (ho:okV v=true) (hk:kill g v=v):WZ a s off (some (.box (cs.map (ZG g))))=some v:=by
 unfold WZ at h ⊢;cases a with
 | true=>
  simp only[Kj] at h ⊢;split at h
  ·rename_i hl;cases h;rw[Kt (by simpa using hl),Zdw,ZqA ho hk]
  ·cases h
 | false=>
  simp only[Ka,Ki] at h ⊢;obtain⟨c,hc,rfl⟩:=Option.map_eq_some_iff.1 h;rw[Lf,hc];simp only[KM];rw[Zgn,ZoE ho hk]
theorem Zm2 {g:List Nat} {cs:List AV} {a:Bool} {s off:Nat} {v:AV} (h:WZ a s off (some (.box (cs.map (ZG g))))=some v) (ho:okV v=true):WZ a s off (some (.box cs))=some v∧kill g v=v:=by
 unfold WZ at h ⊢;cases a with
 | true=>
  simp only[Kj] at h ⊢;split at h
  ·rename_i hl;cases h;rw[Zdw] at ho ⊢;have he:=ZqB ho;rw[he] at ho ⊢;refine⟨by rw[Kt (by simpa using hl)],?_⟩;rcases Zb0 ((cs.drop off).take s) with ⟨ds,h1,h2⟩ | ⟨h1,h2 | h2⟩
   ·rw[h2];rfl
   ·rw[h2] at ho;cases ho
   ·rw[h2] at ho ⊢;simp only[okV] at ho;have hm:=ZeC ho;simp only[kill,ZG,AV.agg.injEq];rw[KB (g:=id),Lb];intro c hc;have h3:ZG g c=c:=by
     refine Zat ?_;have h4:ZG g c∈((cs.drop off).take s).map (ZG g):=List.mem_map_of_mem hc;rw[he] at h4;exact ZpI (hm _ h4)
    have:=hm c hc;cases c<;>first | exact h3 | cases this
  ·cases h
 | false=>
  simp only[Ka,Ki] at h ⊢;rw[Lf] at h;cases hc:cs[off]? with
  | none=>rw[hc] at h;cases h
  | some c=>
   rw[hc] at h;simp only[KM,Option.some.injEq] at h;rw[Zgn] at h;have h3:ZG g (ZeH c)=ZeH c:=Zat (by rw[h];exact ho);rw[h3] at h;subst h;exact⟨rfl,ZoF ho h3⟩
theorem ZoG {g:List Nat} {o o' : Option Zk} (h:US g o o'):YS o'=YS o:=by
 cases o with
 | none=>cases o' with
  | none=>rfl
  | some o'=>cases h
 | some o=>cases o' with
  | none=>cases o<;>cases h
  | some o' =>
   have tr:∀ s n xs l,YS (some (.tree s n xs (Yv g l)))=YS (some (.tree s n xs l)):=by
    intro s n xs l;rcases l with _ | ⟨_ | nm,_⟩
    ·rfl
    ·rfl
    ·simp only[Yv];split<;>rfl
   cases o<;>cases o' <;> simp only[US] at h<;>first | (cases h;done) | rfl | (obtain⟨rfl,rfl⟩:=h;rfl) | (obtain⟨rfl,rfl,rfl,rfl⟩:=h;exact tr _ _ _ _)
theorem UT {g:List Nat} {o o' : Option Zk} (h:US g o o'):(∃ s xs e f e' f',o=some (.row s xs e f)∧o'=some (.row s xs e' f'))∨(o=none∧o'=none)∨(∃ cs,o=some (.box cs)∧o'=some (.box (cs.map (ZG g))))∨(o=some .gone∧o'=some .gone)∨(∃ s n xs l,o=some (.tree s n xs l)∧o'=some (.tree s n xs (Yv g l))):=by
 cases o with
 | none=>cases o' with
  | none=>exact .inr (.inl ⟨rfl,rfl⟩)
  | some o'=>cases h
 | some o=>cases o' with
  | none=>cases o<;>cases h
  | some o' =>
   cases o with
   | box cs=>cases o' with
    | box cs'=>simp only[US] at h;subst h;exact .inr (.inr (.inl ⟨cs,rfl,rfl⟩))
    | row _ _ _ _=>cases h
    | gone=>cases h
    | tree _ _ _ _=>cases h
   | row s xs e f=>cases o' with
    | box cs'=>cases h
    | row s' xs' e' f'=>simp only[US] at h;obtain⟨rfl,rfl⟩:=h;exact .inl ⟨_,_,_,_,_,_,rfl,rfl⟩
    | gone=>cases h
    | tree _ _ _ _=>cases h
   | gone=>cases o' with
    | box cs'=>cases h
    | row _ _ _ _=>cases h
    | gone=>exact .inr (.inr (.inr (.inl ⟨rfl,rfl⟩)))
    | tree _ _ _ _=>cases h
   | tree s n xs l=>cases o' with
    | box cs'=>cases h
    | row _ _ _ _=>cases h
    | gone=>cases h
    | tree s' n' xs' l'=>simp only[US] at h;obtain⟨rfl,rfl,rfl,rfl⟩:=h;exact .inr (.inr (.inr (.inr ⟨_,_,_,_,rfl,rfl⟩)))
section
variable {g:List Nat} {o o' : Option Zk}
theorem Zly (h:US g o o') (sz id n:Nat):JI sz id n o'=JI sz id n o:=by
 rcases UT h with ⟨s,xs,e,f,e',f',rfl,rfl⟩ | ⟨rfl,rfl⟩ | ⟨cs,rfl,rfl⟩ | ⟨rfl,rfl⟩ | ⟨s,n,xs,l,rfl,rfl⟩<;>rfl
theorem Zjo (h:US g o o') (sz id off m n:Nat):UY sz id off m n o'=UY sz id off m n o:=by
 rcases UT h with ⟨s,xs,e,f,e',f',rfl,rfl⟩ | ⟨rfl,rfl⟩ | ⟨cs,rfl,rfl⟩ | ⟨rfl,rfl⟩ | ⟨s,n,xs,l,rfl,rfl⟩<;>rfl
theorem Zjp (h:US g o o') (s id:Nat) (lo hi:Option AV):UZ s id lo hi o'=UZ s id lo hi o:=by
 rcases UT h with ⟨s,xs,e,f,e',f',rfl,rfl⟩ | ⟨rfl,rfl⟩ | ⟨cs,rfl,rfl⟩ | ⟨rfl,rfl⟩ | ⟨s,n,xs,l,rfl,rfl⟩<;>rfl
theorem ZhO (h:US g o o') (s id off n:Nat) (lo hi:Option AV):WL s id off n lo hi o'=WL s id off n lo hi o:=by
 rcases UT h with ⟨s,xs,e,f,e',f',rfl,rfl⟩ | ⟨rfl,rfl⟩ | ⟨cs,rfl,rfl⟩ | ⟨rfl,rfl⟩ | ⟨s,n,xs,l,rfl,rfl⟩<;>rfl
theorem Zlz {i off:Nat} {l:Option (Option Nat×Nat×Nat)} {x:D} {v:AV} (h:V3 i off l x=some v) (hk:kill g v=v):V3 i off (Yv g l) x=some v:=by
 unfold V3 at h ⊢;split at h
 ·unfold Zgv at h;split at h
  ·rename_i nm i' c;split at h
   ·rename_i hc;cases h;have:g.contains nm=false:=by
     cases hg:g.contains nm with
     | false=>rfl
     | true=>simp only[kill,ZG,ZT,hg,Kj] at hk;cases hk
    simp only[Yv,this,Ka,Ki,Zgv,hc,and_self,Kj]
   ·cases h
  ·cases h
 ·exact h
 ·cases h
theorem ZlA {i off:Nat} {l:Option (Option Nat×Nat×Nat)} {x:D} {v:AV} (h:V3 i off (Yv g l) x=some v):V3 i off l x=some v∧kill g v=v:=by
 unfold V3 at h ⊢;split at h
 ·unfold Zgv at h;split at h
  ·rename_i nm i' c hl;split at h
   ·rename_i hc;cases h;unfold Yv at hl;split at hl
    ·rename_i ab q;split at hl
     ·cases hl
     ·rename_i hg;cases hl;simp only[LH] at hg;exact⟨by simp only[Zgv,hc,and_self,Kj],by simp only[kill,ZG,ZT,hg,Ka,Ki]⟩
    ·rename_i aa;subst hl;exact absurd rfl (aa _ _)
   ·cases h
  ·cases h
 ·split at h
  ·rename_i hp;cases h;exact⟨by rw[Kt hp],rfl⟩
  ·cases h
 ·cases h
theorem ZeD {id:Nat} (h:US g o o') {a:Bool} {s sz i off:Nat} {v:AV}:(V4 id a s sz i off o=some v→kill g v=v→V4 id a s sz i off o'=some v)∧(V4 id a s sz i off o'=some v→V4 id a s sz i off o=some v∧kill g v=v):=by
 have aa:∀ {cs:List D},UW a s off cs=some v→∃ d,v=.d d:=by
  intro cs h;unfold UW at h;split at h
  ·split at h
   ·cases h;exact⟨_,rfl⟩
   ·cases h
  ·unfold asD at h;obtain⟨y,_,h⟩:=Za h;cases h;exact⟨_,rfl⟩
 rcases UT h with ⟨s,xs,e,f,e',f',rfl,rfl⟩ | ⟨rfl,rfl⟩ | ⟨cs,rfl,rfl⟩ | ⟨rfl,rfl⟩ | ⟨s,n,xs,l,rfl,rfl⟩
 ·refine⟨fun h _=>h,fun h=>⟨h,?_⟩⟩;simp only[V4] at h;split at h
  ·obtain⟨x,_,h⟩:=Za h;unfold ZeI at h;split at h
   ·obtain⟨d,rfl⟩:=aa h;rfl
   ·cases h
  ·cases h
 ·exact⟨fun h _=>(by cases h),fun h=>(by cases h)⟩
 ·exact⟨fun h _=>(by cases h),fun h=>(by cases h)⟩
 ·exact⟨fun h _=>(by cases h),fun h=>(by cases h)⟩
 ·simp only[V4];split
  ·split
   ·exact⟨fun h _=>(by cases h),fun h=>(by cases h)⟩
   ·constructor
    ·intro hh hk;obtain⟨x,h1,hh⟩:=Za hh;rw[h1,Zc];exact Zlz hh hk
    ·intro hh;obtain⟨x,h1,hh⟩:=Za hh;rw[h1,Zc];exact ZlA hh
  ·exact⟨fun h _=>(by cases h),fun h=>(by cases h)⟩
end
section
variable {hp hp' : Hp} {g:List Nat}
def ZeE (g:List Nat) (hp hp' : Hp) (v:AV):Prop:=∀ k∈Zo v,US g (lkp hp k) (lkp hp' k)
theorem Zau {v:AV} (h:ZeE g hp hp' v):JX hp' v=JX hp v:=by
 cases v<;>simp only[JX]
 case d x=>cases x<;>rfl
 case own id=>rw[ZoG (h id (by simp[Zo,Zs,Zi]))]
theorem Un {v:AV} (h:ZeE g hp hp' v) (sz n:Nat):Qd hp' sz n v=Qd hp sz n v:=by
 cases v<;>simp only[Qd]
 case d x=>cases x<;>rfl
 case own id=>rw[Zly (h id (by simp[Zo,Zs,Zi]))]
 case ownv id off n=>rw[Zjo (h id (by simp[Zo,Zs,Zi]))]
theorem Zb1 {v:AV} (h:ZeE g hp hp' v) (s:Nat) (lo hi:Option AV):Yf hp' s lo hi v=Yf hp s lo hi v:=by
 cases v<;>simp only[Yf]
 case d x=>cases x<;>rfl
 case own id=>rw[Zjp (h id (by simp[Zo,Zs,Zi]))]
 case ownv id off n=>rw[ZhO (h id (by simp[Zo,Zs,Zi]))]
theorem ZqC {x v:AV} (hs:ZeE g hp hp' x) {a:Bool} {s:Nat} (h:Vc hp a s x=some v) (ho:okV v=true) (hk:kill g v=v):Vc hp' a s x=some v:=by
 cases x<;>simp only[Vc] at h ⊢ <;> first | (cases h;done) | skip
 case ptr id off=>
  rcases UT (hs id (by simp[Zo,Zs,Zi])) with ⟨_,_,_,_,_,_,e1,e2⟩ | ⟨e1,e2⟩ | ⟨cs,e1,e2⟩ | ⟨e1,e2⟩ | ⟨_,_,_,_,e1,e2⟩
  ·rw[e1] at h;cases h
  ·rw[e1] at h;cases h
  ·rw[e1] at h;rw[e2];exact Zm1 h ho hk
  ·rw[e1] at h;cases h
  ·rw[e1] at h;cases h
 case prow id sz i off=>exact(ZeD (hs id (by simp[Zo,Zs,Zi]))).1 h hk
 case pim cs=>exact h
theorem ZrI {a:Bool} {s off:Nat} {cs:List D} {v:AV} (h:UW a s off cs=some v):∃ d,v=.d d:=by
 unfold UW at h;split at h
 ·split at h
  ·cases h;exact⟨_,rfl⟩
  ·cases h
 ·unfold asD at h;obtain⟨y,_,h⟩:=Za h;cases h;exact⟨_,rfl⟩
theorem ZqD {x v:AV} (hs:ZeE g hp hp' x) {a:Bool} {s:Nat} (h:Vc hp' a s x=some v) (ho:okV v=true):Vc hp a s x=some v∧kill g v=v:=by
 cases x<;>simp only[Vc] at h ⊢ <;> first | (cases h;done) | skip
 case ptr id off=>
  rcases UT (hs id (by simp[Zo,Zs,Zi])) with ⟨_,_,_,_,_,_,e1,e2⟩ | ⟨e1,e2⟩ | ⟨cs,e1,e2⟩ | ⟨e1,e2⟩ | ⟨_,_,_,_,e1,e2⟩
  ·rw[e2] at h;cases h
  ·rw[e2] at h;cases h
  ·rw[e2] at h;rw[e1];exact Zm2 h ho
  ·rw[e2] at h;cases h
  ·rw[e2] at h;cases h
 case prow id sz i off=>
  exact(ZeD (hs id (by simp[Zo,Zs,Zi]))).2 h
 case pim cs=>
  obtain⟨d,rfl⟩:=ZrI h;exact⟨h,rfl⟩
theorem Zgo {x:AV} {d:D} {e:Bool} (h:Uw hp x=some (d,e,[])) (hp' : Hp):Uw hp' x=some (d,e,[]):=by
 cases x<;>simp only[Uw] at h ⊢ <;> first | exact h | skip
 case own id=>obtain⟨q,_,h⟩:=Za h;simp at h
theorem Zgp:∀ {xs:List AV} {d:List D} {e:Bool},Yi hp xs=some (d,e,[])→∀ hp' : Hp,Yi hp' xs=some (d,e,[])
 | [],d,e,h,hp'=>h
 | x :: xs,d,e,h,hp'=>by
  simp only[Yi] at h ⊢;obtain⟨⟨d1,e1,l1⟩,h1,h⟩:=Za h;obtain⟨⟨d2,e2,l2⟩,h2,h⟩:=Za h;have hl:l1=[]∧l2=[]:=by
   simp only at h;split at h
   ·simp only[Option.some.injEq,Prod.mk.injEq,List.append_eq_nil_iff] at h;exact h.2.2
   ·cases h
  obtain⟨rfl,rfl⟩:=hl;rw[Zgo h1 hp',Zc,Zgp h2 hp',Zc];exact h
theorem ZoH {x:AV} {d:D} {e:Bool} (h:give hp x=some (d,e,[])) (hp' : Hp):give hp' x=some (d,e,[]):=by
 cases x<;>simp only[give] at h ⊢ <;> first | exact Zgo h hp' | skip
 case agg cs=>
  obtain⟨⟨d1,e1,l1⟩,h1,h⟩:=Za h;simp only[Option.some.injEq,Prod.mk.injEq] at h;obtain⟨rfl,rfl,rfl⟩:=h;rw[Zgp h1 hp',Zc]
theorem Zdx:∀ {xs:List AV} {d:List D} {e:Bool},YT hp xs=some (d,e,[])→∀ hp' : Hp,YT hp' xs=some (d,e,[])
 | [],d,e,h,hp'=>h
 | x :: xs,d,e,h,hp'=>by
  simp only[YT] at h ⊢;obtain⟨⟨d1,e1,l1⟩,h1,h⟩:=Za h;obtain⟨⟨d2,e2,l2⟩,h2,h⟩:=Za h;have hl:l1=[]∧l2=[]:=by
   simp only at h;split at h
   ·simp only[Option.some.injEq,Prod.mk.injEq,List.append_eq_nil_iff] at h;exact h.2.2
   ·cases h
  obtain⟨rfl,rfl⟩:=hl;rw[ZoH h1 hp',Zc,Zdx h2 hp',Zc];exact h
theorem Zdy {base s:Nat} {vs:List AV} {ce:Zb} (h:buildSl hp base s vs=some ce) (hf:ce.eff.frz=[]) (hp' : Hp) :
  buildSl hp' base s vs=some ce∧(ce.eff.val=.nil∨ce.eff.val=.own base)∧(∀ k o,(k,o)∈ce.eff.adds→∃ sz xs e f,o=.row sz xs e f):=by
 cases vs with
 | nil=>simp only[buildSl,Qr] at h ⊢;cases h;exact⟨rfl,.inl rfl,fun k o h=>by simp at h⟩
 | cons v vs=>
  simp only[buildSl] at h ⊢;obtain⟨⟨ds,e,l⟩,h1,h⟩:=Za h;unfold ZqS at h;split at h
  ·rename_i hc;cases h;simp only at hf;subst hf;rw[Zdx h1 hp',Zc];refine⟨?_,.inr rfl,fun k o ho=>?_⟩
   ·unfold ZqS;rw[Kt hc]
   ·simp at ho;obtain⟨rfl,rfl⟩:=ho;exact⟨_,_,_,_,rfl⟩
  ·cases h
end
theorem ZeF {C:Orc} {M:Zj} {sl:Sl} {hp hp' : Hp} {base:Nat} {c:COp} (hc:YE c=true):vop C M sl hp base c=vop C M sl hp' base c:=by
 cases c<;>first | rfl | (simp[YE] at hc)
section
variable {C:Orc} {M:Zj} {sl sl' : Sl} {hp hp' : Hp} {base:Nat} {g:List Nat}
theorem ZS {v:AV} {ce:Zb} (h:Qr v=some ce):ce.eff.adds=[]:=by cases h;rfl
theorem Qq {v:Option AV} {ce:Zb} (h:Yg v=some ce):ce.eff.adds=[]:=by obtain⟨v,_,h⟩:=Za h;exact ZS h
theorem W5 {v:Option AV} {ce:Zb} (h:Yg v=some ce):v=some ce.eff.val:=by obtain⟨v,rfl,h⟩:=Za h;cases h;rfl
theorem ZpK {v:Option AV} {ce:Zb} {w:Option AV} (h:Yg v=some ce) (hw:w=some ce.eff.val):Yg w=some ce:=by
 obtain⟨v,rfl,h⟩:=Za h;cases h;rw[hw];rfl
theorem ZoI {c:COp} (hc:YE c=true) (hv:Zo1 c=true) {ce:Zb} (h:vop C M sl hp base c=some ce):ce.eff.adds=[]:=by
 cases c<;>simp only[YE,Zo1,Ka] at hc hv<;>simp only[vop] at h
 case stuck=>cases h
 case move x=>exact ZS h
 case pick c a b=>
  unfold Zce at h;split at h
  ·split at h<;>exact ZS h
  ·cases h
 case build zs ps=>obtain⟨cs,_,h⟩:=Za h;exact ZS h
 case nilCheck x=>unfold WM at h;split at h<;>first | exact ZS h | cases h
 case bin op eq x y=>
  unfold Zh4 at h;split at h
  ·split at h
   ·exact Qq h
   ·cases h
  ·exact Qq h
 case un op x=>exact Qq h
 case eqA neg n x y=>
  unfold ZlL at h;split at h
  ·obtain⟨r,_,h⟩:=Za h;exact ZS h
  ·cases h
 case convI k x=>unfold Go.Abs.convI at h;split at h<;>first | exact ZS h | cases h
 case convS x=>unfold Go.Abs.convS at h;split at h<;>first | exact ZS h | cases h
 case sliceS x lo hi=>exact Qq h
 case shift off x=>unfold YD at h;split at h<;>first | exact ZS h | cases h
 case part g s off x=>exact Qq h
 case iaA len s x i=>
  obtain⟨n,_,h⟩:=Za h;unfold Zh6 at h;split at h
  ·unfold YD at h;split at h<;>first | exact ZS h | cases h
  ·cases h
 case ixS x i=>
  obtain⟨n,_,h⟩:=Za h;unfold ZoQ at h;split at h
  ·unfold Zne at h;split at h
   ·obtain⟨b,_,h⟩:=Za h;exact ZS h
   ·cases h
  ·cases h
 case ixA g s len x i=>
  obtain⟨n,_,h⟩:=Za h;unfold ZqT at h;split at h
  ·exact Qq h
  ·cases h
 case nth i x=>unfold Znf at h;split at h<;>first | exact Qq h | cases h
 case lenS x=>obtain⟨n,_,h⟩:=Za h;exact ZS h
 case min x y=>unfold Zgw at h;split at h<;>first | (split at h<;>first | exact ZS h | cases h) | cases h
 case max x y=>unfold Zgx at h;split at h<;>first | (split at h<;>first | exact ZS h | cases h) | cases h
theorem Zgq {c:AV} (h:J6 c=true):ZG g c=c:=by cases c<;>first | rfl | cases h
theorem ZaT:∀ {cs:List AV},X0 cs=true→∀ c∈cs,J6 c=true
 | [],_,c,hc=>by simp at hc
 | x :: l,h,c,hc=>by
  simp only[X0,Kb] at h;rcases Kf.1 hc with rfl | hc
  ·exact h.1
  ·exact ZaT h.2 c hc
theorem Zfu:∀ (slc:List (Option Nat)) (cs:List AV) (b:Nat),(∀ c∈(mat slc cs b).1,c∈cs∨∃ k o,c=.own k∧(k,o)∈(mat slc cs b).2)∧∀ k o,(k,o)∈(mat slc cs b).2→∃ sz,o=.row sz [] true false
 | [],cs,b=>by simp only[mat];exact⟨fun c hc=>.inl hc,fun k o h=>by simp at h⟩
 | t :: ts,[],b=>by cases t<;>(simp only[mat];exact⟨fun c hc=>.inl hc,fun k o h=>by simp at h⟩)
 | t :: ts,v :: vs,b=>by
  by_cases hv:(∃ sz,t=some sz)∧v=.nil
  ·obtain⟨⟨sz,rfl⟩,rfl⟩:=hv;obtain⟨h1,h2⟩:=Zfu ts vs (b+1);simp only[mat];refine⟨fun c hc=>?_,fun k o h=>?_⟩
   ·rcases Kf.1 hc with rfl | hc
    ·exact .inr ⟨b,_,rfl,KT ..⟩
    ·rcases h1 c hc with h | ⟨k,o,e,h⟩
     ·exact .inl (Km _ h)
     ·exact .inr ⟨k,o,e,Km _ h⟩
   ·rcases Kf.1 h with h | h
    ·cases h;exact⟨_,rfl⟩
    ·exact h2 k o h
  ·obtain⟨h1,h2⟩:=Zfu ts vs b;have e:mat (t :: ts) (v :: vs) b=(v :: (mat ts vs b).1,(mat ts vs b).2):=by
    cases t with
    | none=>simp[mat]
    | some sz=>cases v<;>first | (exact absurd ⟨⟨sz,rfl⟩,rfl⟩ hv) | simp[mat]
   rw[e];refine⟨fun c hc=>?_,h2⟩;rcases Kf.1 hc with rfl | hc
   ·exact .inl (KT ..)
   ·rcases h1 c hc with h | h
    ·exact .inl (Km _ h)
    ·exact .inr h
theorem Zkx {base:Nat}:∀ {cs:List AV},X0 cs=true→cs.map (ZdY base)=cs
 | [],_=>rfl
 | c :: cs,h=>by
  simp only[X0,Kb] at h;rw[Kx,Zkx h.2];congr 1
  cases c<;>first | rfl | (simp[J6] at h)
theorem Zky:∀ {cs:List AV},X0 cs=true→QW cs=true
 | [],_=>rfl
 | c :: cs,h=>by
  simp only[X0,Kb] at h;have:=Zky h.2;cases c<;>first | exact this | (simp[J6] at h)
theorem Zgr {slc:List (Option Nat)} {cs:List AV} {ce:Zb} (hb:∀ k,base≤k→k<base+64→k∉g) (hc:X0 cs=true) (h:Zcf slc base cs=some ce) (ad:Qx base (base+64) ce.eff.adds=true) :
  (∀ id∈Zo ce.eff.val,id∉g)∧∀ k o,(k,o)∈ce.eff.adds→QH g o=o:=by
 have hr:=VO ad;unfold Zcf at h;rw[Zkx hc] at h;unfold Zh2 at h;rw[Kn (by rw[Zky hc];decide)] at h;split at h
 ·cases h;simp only at hr ⊢;obtain⟨h1,h2⟩:=Zfu slc cs (base+1);refine⟨fun id aa=>?_,fun k o hm=>?_⟩
  ·simp[Zo,Zs,Zi] at aa;subst aa;exact hb _ (Kg _) (by omega)
  ·rcases Kf.1 hm with hm | hm
   ·cases hm;simp only[QH];congr 1
    rw[KB (g:=id),Lb];intro c ab;rcases h1 c ab with h | ⟨k,o,rfl,h⟩
    ·exact Zgq (ZaT hc c h)
    ·have:=hr k o (Km _ h);have hk:=hb k this.1 this.2;simp[ZG,ZT,hk]
   ·obtain⟨sz,rfl⟩:=h2 k o hm;rfl
 ·cases h;simp only at hr ⊢;refine⟨fun id aa=>?_,fun k o hm=>?_⟩
  ·simp[Zo,Zs,Zi] at aa;subst aa;exact hb _ (Kg _) (by omega)
  ·simp at hm;obtain⟨rfl,rfl⟩:=hm;simp only[QH];congr 1
   rw[KB (g:=id),Lb];exact fun c ab=>Zgq (ZaT hc c ab)
theorem ZqE {c:COp} (hc:Zij c=true) (he:∀ x∈Zv c,evO sl' x=evO sl x) (hs:∀ x∈Zv c,ZeE g hp hp' (evO sl x)) {ce:Zb}
  (hb:∀ k,base≤k→k<base+64→k∉g) (h:vop C M sl hp base c=some ce) (ab:Qx base (base+64) ce.eff.adds=true) (ad:ce.eff.frz=[]) (ho:okV ce.eff.val=true) (hk:kill g ce.eff.val=ce.eff.val):vop C M sl' hp' base c=some ce∧∀ k o,(k,o)∈ce.eff.adds→QH g o=o:=by
 rw[QB C M hp' base he];have aa:ce.eff.adds=[]→∀ k o,(k,o)∈ce.eff.adds→QH g o=o:=fun e k o hm=>by rw[e] at hm;simp at hm
 simp only[Zij,Lc,Kb] at hc;rcases hc with ((hc | hc) | ⟨hc1,hc2⟩) | hc
 ·cases c<;>simp only[Wa,Ka] at hc<;>simp only[vop] at h ⊢ <;> simp only[Zv] at hs
  case load a s x=>exact⟨ZpK h (ZqC (hs x (by simp)) (W5 h) ho hk),aa (Qq h)⟩
  case slice s x lo hi=>
   rw[Zb1 (hs x (by simp))];exact⟨h,aa (Qq h)⟩
  case slice0 x hi mx=>
   unfold slice0 at h ⊢;rw[Zau (hs x (by simp))];exact⟨h,aa (Qq h)⟩
  case iaS s x i=>
   obtain⟨n,h1,h⟩:=Za h;rw[h1,Zc];unfold ZdE at h ⊢;rw[Un (hs x (by simp))];refine⟨h,aa ?_⟩;split at h
   ·exact Qq h
   ·cases h
  case len x=>
   rw[Zau (hs x (by simp))];refine⟨h,aa ?_⟩;obtain⟨n,_,h⟩:=Za h;exact ZS h
 ·cases c<;>simp only[ZkN,Ka] at hc
  simp only[vop] at h ⊢;obtain⟨h1,h2,h3⟩:=Zdy h ad hp';refine⟨h1,fun k o hm=>?_⟩;obtain⟨sz,xs,e,f,rfl⟩:=h3 k o hm;rfl
 ·rw[← ZeF (hp:=hp) hc1];exact⟨h,aa (ZoI hc1 hc2 h)⟩
 ·cases c<;>simp only[Zha,Ka] at hc
  simp only[vop] at h ⊢;exact⟨h,(Zgr hb hc h ab).2⟩
theorem ZoJ {c:COp} (hc:ZeV c=true) (he:∀ x∈Zv c,evO sl' x=evO sl x) (hs:∀ x∈Zv c,ZeE g hp hp' (evO sl x)) {ce:Zb}
  (hn:∀ x∈Zv c,∀ id∈Zo (evO sl x),id∉g) (hb:∀ k,base≤k→k<base+64→k∉g)
  (h:vop C M sl' hp' base c=some ce) (ad:Qx base (base+64) ce.eff.adds=true) (ae:ce.eff.frz=[]) (ho:okV ce.eff.val=true):vop C M sl hp base c=some ce∧kill g ce.eff.val=ce.eff.val∧∀ k o,(k,o)∈ce.eff.adds→QH g o=o:=by
 rw[QB C M hp' base he] at h;have aa:ce.eff.adds=[]→∀ k o,(k,o)∈ce.eff.adds→QH g o=o:=fun e k o hm=>by rw[e] at hm;simp at hm
 have names:(∀ id∈Zo ce.eff.val,id∉g)→kill g ce.eff.val=ce.eff.val:=ZpJ ho;cases c<;>simp only[ZeV,Ka] at hc<;>simp only[vop] at h ⊢ <;> simp only[Zv] at hs hn
 case alloc slc cs=>
  obtain⟨h1,h2⟩:=Zgr hb hc h ad;exact⟨h,names h1,h2⟩
 case buildSl s xs=>
  obtain⟨h1,h2,h3⟩:=Zdy h ae hp;refine⟨h1,names fun id ab=>?_,fun k o hm=>?_⟩
  ·rcases h2 with h2 | h2
   ·rw[h2] at ab;simp[Zo,Zs,Zi] at ab
   ·rw[h2] at ab;simp[Zo,Zs,Zi] at ab;subst ab;exact hb _ (Kg _) (by omega)
  ·obtain⟨sz,xs,e,f,rfl⟩:=h3 k o hm;rfl
 case load a s x=>
  obtain⟨h1,h2⟩:=ZqD (hs x (by simp)) (W5 h) ho;exact⟨ZpK h h1,h2,aa (Qq h)⟩
 case nilCheck x=>
  have hx:=hn x (by simp);refine⟨h,names ?_,aa ?_⟩
  ·unfold WM at h;split at h<;>rename_i hv<;>first | (cases h;done) | (cases h;show ∀ id∈Zo _,_;rw[← hv];exact hx)
  ·unfold WM at h;split at h<;>first | exact ZS h | cases h
 case bin op eq x y=>
  have hd:∃ d,ce.eff.val=.d d:=by
   have o2:∀ {a b:AV},Yg (vbin op a b)=some ce→∃ d,ce.eff.val=.d d:=fun {a b} h=>by
    have h1:=W5 h;unfold vbin at h1;split at h1
    ·unfold WH at h1;split at h1
     ·obtain⟨y,_,h1⟩:=Za h1;exact⟨_,(Option.some.inj h1).symm⟩
     ·obtain⟨y,_,h1⟩:=Za h1;exact⟨_,(Option.some.inj h1).symm⟩
     ·split at h1
      ·obtain⟨y,_,h1⟩:=Za h1;have:=Option.some.inj h1;exact⟨_,this.symm⟩
      ·cases h1
    ·obtain⟨y,_,h1⟩:=Za h1;have:=Option.some.inj h1;exact⟨_,this.symm⟩
    ·cases h1
   unfold Zh4 at h;split at h
   ·split at h
    ·have h1:=W5 h;unfold Zkj at h1;split at h1
     ·exact⟨_,(Option.some.inj h1).symm⟩
     ·exact⟨_,(Option.some.inj h1).symm⟩
     ·cases h1
    ·cases h
   ·exact o2 h
  obtain⟨d,hd⟩:=hd;refine⟨h,by rw[hd];rfl,aa ?_⟩;unfold Zh4 at h;split at h
  ·split at h
   ·exact Qq h
   ·cases h
  ·exact Qq h
 case un op x=>
  have hd:∃ d,ce.eff.val=.d d:=by
   have h1:=W5 h;unfold vun at h1;split at h1
   ·unfold neg1 at h1;split at h1
    ·exact⟨_,(Option.some.inj h1).symm⟩
    ·cases h1
   ·unfold not1 at h1;split at h1
    ·exact⟨_,(Option.some.inj h1).symm⟩
    ·cases h1
   ·cases h1
  obtain⟨d,hd⟩:=hd;exact⟨h,by rw[hd];rfl,aa (Qq h)⟩
 case convI k x=>
  unfold Go.Abs.convI at h ⊢;split at h
  ·exact⟨h,by cases h;rfl,aa (ZS h)⟩
  ·cases h
 case shift off x=>
  have hx:=hn x (by simp);refine⟨h,names ?_,aa ?_⟩
  ·unfold YD at h;split at h<;>rename_i hv<;>first | (cases h;done) | skip
   ·cases h;rw[hv] at hx;simpa [Zo,Zs,Zi] using hx
   ·cases h;rw[hv] at hx;simpa [Zo,Zs,Zi] using hx
   ·cases h;simp[Zo,Zs,Zi]
  ·unfold YD at h;split at h<;>first | exact ZS h | cases h
 case slice s x lo hi=>
  have hx:=hn x (by simp);rw[Zb1 (hs x (by simp))] at h;refine⟨h,names ?_,aa (Qq h)⟩;have h1:=W5 h;cases hv:evO sl x<;>rw[hv] at h1 hx<;>simp only[Yf] at h1<;>first | (cases h1;done) | skip
  case d y=>
   cases y<;>simp only[Yf] at h1<;>first | (cases h1;done) | skip
   split at h1
   ·obtain⟨b,_,h1⟩:=Za h1;rw[← Option.some.inj h1];simp[Zo,Zs,Zi]
   ·cases h1
  case nil=>obtain⟨b,_,h1⟩:=Za h1;rw[← Option.some.inj h1];simp[Zo,Zs,Zi]
  case own id=>
   unfold UZ at h1;split at h1
   ·split at h1
    ·unfold Znc at h1;split at h1
     ·rw[← Option.some.inj h1];exact hx
     ·obtain⟨b,_,h1⟩:=Za h1;rw[← Option.some.inj h1];simpa [Zo,Zs,Zi] using hx
    ·cases h1
   ·cases h1
  case ownv id off n=>
   unfold WL at h1;split at h1
   ·split at h1
    ·obtain⟨b,_,h1⟩:=Za h1;rw[← Option.some.inj h1];simpa [Zo,Zs,Zi] using hx
    ·cases h1
   ·cases h1
 case sliceS x lo hi=>
  have hd:∃ d,ce.eff.val=.d d:=by
   have h1:=W5 h;unfold sliceS at h1;split at h1
   ·obtain⟨b,_,h1⟩:=Za h1;exact⟨_,(Option.some.inj h1).symm⟩
   ·cases h1
  obtain⟨d,hd⟩:=hd;exact⟨h,by rw[hd];rfl,aa (Qq h)⟩
 case lenS x=>
  obtain⟨n,h1,h⟩:=Za h;refine⟨by rw[h1,Zc];exact h,by cases h;rfl,aa (ZS h)⟩
 case iaS s x i=>
  have hx:=hn x (by simp);obtain⟨n,h1,h⟩:=Za h;rw[h1,Zc];unfold ZdE at h ⊢;rw[Un (hs x (by simp))] at h;refine⟨h,names ?_,aa ?_⟩
  ·split at h
   ·have h1:=W5 h;cases hv:evO sl x<;>rw[hv] at h1 hx<;>simp only[Qd] at h1<;>first | (cases h1;done) | skip
    case d y=>
     cases y<;>simp only[Qd] at h1<;>first | (cases h1;done) | skip
     obtain⟨b,_,h1⟩:=Za h1;unfold ZpT at h1;split at h1
     ·rw[← Option.some.inj h1];simp[Zo,Zs,Zi]
     ·cases h1
    case own id=>
     unfold JI at h1;split at h1
     ·split at h1
      ·rw[← Option.some.inj h1];simpa [Zo,Zs,Zi] using hx
      ·cases h1
     ·split at h1
      ·rw[← Option.some.inj h1];simpa [Zo,Zs,Zi] using hx
      ·cases h1
     ·cases h1
    case ownv id off n=>
     unfold UY at h1;split at h1
     ·split at h1
      ·rw[← Option.some.inj h1];simpa [Zo,Zs,Zi] using hx
      ·cases h1
     ·cases h1
   ·cases h
  ·split at h
   ·exact Qq h
   ·cases h
 case len x=>
  rw[Zau (hs x (by simp))] at h;obtain⟨n,h1,h2⟩:=Za h;exact⟨h,by cases h2;rfl,aa (ZS h2)⟩
end
end Go.Abs
