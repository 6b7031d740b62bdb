/- Own text. -/
import Derived.Test.YtnachaiejoflhaaAbsDraw3
import Derived.Test.YtnachaiejoflhaaAbsSound5
set_option linter.unusedVariables false
set_option linter.unusedSimpArgs false
namespace Go.Abs
open Go
theorem Zm5 {v:AV} (h:okC v=true):okV v=true:=by
 cases v<;>first | exact h | cases h
theorem ZdB {g:List Nat} {v:AV} (h:okC (ZK g v)=true):ZK g v=v:=by
 cases v<;>simp only[ZK] at h ⊢ <;> first | rfl | (split at h<;>rename_i h' <;> first | (cases h;done) | rw[Kk h'])
theorem Zb4 {g:List Nat}:∀ {cs:List AV},ZjI (cs.map (ZK g))=true→cs.map (ZK g)=cs
 | [],_=>rfl
 | c :: cs,h=>by
  simp only[Kw,ZjI,Kb] at h ⊢;rw[ZdB h.1,Zb4 h.2]
theorem U6 {g:List Nat} {v:AV} (h:okV (Zw g v)=true):Zw g v=v:=by
 cases v with
 | agg cs=>simp only[Zw,okV] at h ⊢;rw[Zb4 h]
 | clo f cs=>simp only[Zw,okV,okC] at h;cases h
 | tup vs=>rfl
 | _=>
  simp only[Zw] at h ⊢;refine ZdB ?_;revert h;simp only[ZK]
  first | exact id | (split<;>first | exact id | (intro h;cases h))
theorem WR {g:List Nat} {v:AV} (h:okV (kill g v)=true):kill g v=v:=by
 cases v with
 | tup vs=>
  cases vs with
  | nil=>rfl
  | cons x r=>simp only[kill,Kw,okV,okC] at h;cases h
 | _=>simp only[kill] at h ⊢;exact U6 h
theorem ZkC {g:List Nat} {v:AV} (hn:∀ id∈Ze v,id∉g):ZK g v=v:=by
 cases v<;>simp only[ZK]<;>first | rfl | (rw[Kk];simpa [Ze] using hn)
theorem Zm6 {g:List Nat} {v:AV} (h:okV v=true) (hn:∀ id∈Zl v,id∉g):kill g v=v:=by
 cases v with
 | tup vs=>
  cases vs with
  | nil=>rfl
  | cons x r=>simp only[okV,okC] at h;cases h
 | clo f cs=>simp only[okV,okC] at h;cases h
 | agg cs=>
  simp only[kill,Zw];congr 1
  rw[KB (g:=id),Lk];intro c hc;exact ZkC fun id aa=>hn id (by simp only[Zl,Zn,Kl];exact⟨c,hc,aa⟩)
 | _=>simp only[kill,Zw];exact ZkC hn
theorem Zpa {g:List Nat} {v:AV} (h:kill g v=v):∀ id∈Zl v,id∉g:=fun id aa=>(Zh3 g v id (by rw[h];exact aa)).2
theorem ZnX {g:List Nat} {c:AV} (h:okC c=true) (h1:ZK g c=c):Zw g c=c:=by
 cases c<;>simp only[Zw]<;>first | exact h1 | cases h
def WS (g:List Nat):Option Zg→Option Zg→Prop
 | none,none=>True
 | some (.row s xs _ _),some (.row s' xs' _ _)=>s'=s∧xs'=xs
 | some (.box cs),some (.box cs')=>cs'=cs.map (Zw g)
 | some (.tree s n xs l),some (.tree s' n' xs' l')=>s'=s∧n'=n∧xs'=xs∧l'=X6 g l
 | some .gone,some .gone=>True
 | _,_=>False
theorem ZkD {g:List Nat} {b:Bool} (o:Option Zg):WS g o ((o.map (QC g)).map fun o=>if b then XC o else o):=by
 cases o with
 | none=>trivial
 | some o=>cases o<;>cases b<;>exact(by first | exact⟨rfl,rfl⟩ | exact rfl | exact⟨rfl,rfl,rfl,rfl⟩ | exact trivial)
theorem Zid {g:List Nat}:∀ {l:List AV} {ds:List D},Jr l=some ds→l.map (Zw g)=l
 | [],ds,_=>rfl
 | v :: l,ds,h=>by
  simp only[Jr] at h;obtain⟨x,h1,h⟩:=Za h;obtain⟨aa,h2,h⟩:=Za h;have:Zw g v=v:=by cases v<;>first | rfl | cases h1
  rw[Kw,this,Zid h2]
theorem ZfT {g:List Nat}:∀ {l:List AV} {ds:List D},Jr (l.map (Zw g))=some ds→l.map (Zw g)=l
 | [],ds,_=>rfl
 | v :: l,ds,h=>by
  simp only[Kw,Jr] at h;obtain⟨x,h1,h⟩:=Za h;obtain⟨aa,h2,h⟩:=Za h;have hv:Zw g v=v:=by
   refine U6 ?_;cases hk:Zw g v<;>rw[hk] at h1<;>first | rfl | cases h1
  rw[Kw,hv,ZfT h2]
theorem Zat (l:List AV):(∃ ds,Jr l=some ds∧Vd l=.d (.agg ds))∨(Jr l=none∧(Vd l=.junk∨Vd l=.agg l)):=by
 unfold Vd;cases h:Jr l with
 | some ds=>exact .inl ⟨ds,rfl,rfl⟩
 | none=>
  refine .inr ⟨rfl,?_⟩;unfold YR;split
  ·rename_i h;cases h
  ·split
   ·exact .inl rfl
   ·exact .inr rfl
theorem ZcI:∀ {l:List AV},ZjI l=true→∀ c∈l,okC c=true
 | [],_,c,hc=>by simp at hc
 | x :: l,h,c,hc=>by
  simp only[ZjI,Kb] at h;rcases Kf.1 hc with rfl | hc
  ·exact h.1
  ·exact ZcI h.2 c hc
theorem ZnY {g:List Nat} {l:List AV} (h:okV (Vd l)=true) (hk:kill g (Vd l)=Vd l):l.map (Zw g)=l:=by
 rcases Zat l with ⟨ds,h1,h2⟩ | ⟨h1,h2 | h2⟩
 ·exact Zid h1
 ·rw[h2] at h;cases h
 ·rw[h2] at h hk;simp only[kill,Zw,AV.agg.injEq] at hk;simp only[okV] at h;have hm:=ZcI h;have aa : ∀ c∈l,ZK g c=c:=by
   intro c hc;have:=Zb4 (g:=g) (cs:=l) (by rw[hk];exact h);exact ZdB (by
    have h3:ZK g c∈l.map (ZK g):=List.mem_map_of_mem hc;rw[hk] at h3;exact hm _ h3)
  rw[KB (g:=id),Lk];intro c hc;exact ZnX (hm c hc) (aa c hc)
theorem ZnZ {g:List Nat} {l:List AV} (h:okV (Vd (l.map (Zw g)))=true):l.map (Zw g)=l:=by
 rcases Zat (l.map (Zw g)) with ⟨ds,h1,h2⟩ | ⟨h1,h2 | h2⟩
 ·exact ZfT h1
 ·rw[h2] at h;cases h
 ·rw[h2] at h;simp only[okV] at h;have hm:=ZcI h;rw[KB (g:=id),Lk];intro c hc;exact U6 (Zm5 (hm _ (List.mem_map_of_mem hc)))
theorem Zl1 {g:List Nat} {v:AV} (h:okV v=true) (hk:kill g v=v):Zw g v=v:=by
 cases v with
 | tup vs=>rfl
 | _=>simp only[kill] at hk;exact hk
theorem Zl2 {g:List Nat} {v:AV} (h:okV v=true) (hk:Zw g v=v):kill g v=v:=by
 cases v with
 | tup vs=>
  cases vs with
  | nil=>rfl
  | cons x r=>simp only[okV,okC] at h;cases h
 | _=>simp only[kill];exact hk
theorem ZbF {α β:Type} (f:α→β) (l:List α) (a b:Nat):((l.map f).drop a).take b=((l.drop a).take b).map f:=by
 rw[← List.map_drop,← List.map_take]
theorem Zeq (g:List Nat) (c:AV):ZcO (Zw g c)=Zw g (ZcO c):=by
 have aa:∀ v:AV,(∀ a b,v≠.bbuf a b)→ZcO v=v:=fun v h'=>by cases v<;>first | rfl | exact absurd rfl (h' _ _)
 by_cases h' : ∃ a b,c=.bbuf a b
 ·obtain⟨a,b,rfl⟩:=h';rfl
 ·have h2:∀ a b,c≠.bbuf a b:=fun a b e=>h' ⟨a,b,e⟩;rw[aa c h2,aa];exact fun a b e=>h2 a b ((YZ g c a b).1 e)
theorem ZkE {g:List Nat} {cs:List AV} {a:Bool} {s off:Nat} {v:AV} (h:V3 a s off (some (.box cs))=some v) (ho:okV v=true) (hk:kill g v=v):V3 a s off (some (.box (cs.map (Zw g))))=some v:=by
 unfold V3 at h ⊢;cases a with
 | true=>
  simp only[Kh] at h ⊢;split at h
  ·rename_i hl;cases h;rw[Ko (by simpa using hl),ZbF,ZnY ho hk]
  ·cases h
 | false=>
  simp only[Ka,Kg] at h ⊢;obtain⟨c,hc,rfl⟩:=Option.map_eq_some_iff.1 h;rw[Lj,hc];simp only[KO];rw[Zeq,Zl1 ho hk]
theorem ZkF {g:List Nat} {cs:List AV} {a:Bool} {s off:Nat} {v:AV} (h:V3 a s off (some (.box (cs.map (Zw g))))=some v) (ho:okV v=true):V3 a s off (some (.box cs))=some v∧kill g v=v:=by
 unfold V3 at h ⊢;cases a with
 | true=>
  simp only[Kh] at h ⊢;split at h
  ·rename_i hl;cases h;rw[ZbF] at ho ⊢;have he:=ZnZ ho;rw[he] at ho ⊢;refine⟨by rw[Ko (by simpa using hl)],?_⟩;rcases Zat ((cs.drop off).take s) with ⟨ds,h1,h2⟩ | ⟨h1,h2 | h2⟩
   ·rw[h2];rfl
   ·rw[h2] at ho;cases ho
   ·rw[h2] at ho ⊢;simp only[okV] at ho;have hm:=ZcI ho;simp only[kill,Zw,AV.agg.injEq];rw[KB (g:=id),Lk];intro c hc;have h3:Zw g c=c:=by
     refine U6 ?_;have h4:Zw g c∈((cs.drop off).take s).map (Zw g):=List.mem_map_of_mem hc;rw[he] at h4;exact Zm5 (hm _ h4)
    have:=hm c hc;cases c<;>first | exact h3 | cases this
  ·cases h
 | false=>
  simp only[Ka,Kg] at h ⊢;rw[Lj] at h;cases hc:cs[off]? with
  | none=>rw[hc] at h;cases h
  | some c=>
   rw[hc] at h;simp only[KO,Option.some.injEq] at h;rw[Zeq] at h;have h3:Zw g (ZcO c)=ZcO c:=U6 (by rw[h];exact ho);rw[h3] at h;subst h;exact⟨rfl,Zl2 ho h3⟩
theorem Zl3 {g:List Nat} {o o' : Option Zg} (h:WS g o o'):Yq o'=Yq o:=by
 cases o with
 | none=>cases o' with
  | none=>rfl
  | some o'=>cases h
 | some o=>cases o' with
  | none=>cases o<;>cases h
  | some o' =>
   have tr:∀ s n xs l,Yq (some (.tree s n xs (X6 g l)))=Yq (some (.tree s n xs l)):=by
    intro s n xs l;rcases l with _ | ⟨_ | nm,_⟩
    ·rfl
    ·rfl
    ·simp only[X6];split<;>rfl
   cases o<;>cases o' <;> simp only[WS] at h<;>first | (cases h;done) | rfl | (obtain⟨rfl,rfl⟩:=h;rfl) | (obtain⟨rfl,rfl,rfl,rfl⟩:=h;exact tr _ _ _ _)
theorem WT {g:List Nat} {o o' : Option Zg} (h:WS g o o'):(∃ s xs e f e' f',o=some (.row s xs e f)∧o'=some (.row s xs e' f'))∨(o=none∧o'=none)∨(∃ cs,o=some (.box cs)∧o'=some (.box (cs.map (Zw g))))∨(o=some .gone∧o'=some .gone)∨(∃ s n xs l,o=some (.tree s n xs l)∧o'=some (.tree s n xs (X6 g l))):=by
 cases o with
 | none=>cases o' with
  | none=>exact .inr (.inl ⟨rfl,rfl⟩)
  | some o'=>cases h
 | some o=>cases o' with
  | none=>cases o<;>cases h
  | some o' =>
   cases o with
   | box cs=>cases o' with
    | box cs'=>simp only[WS] at h;subst h;exact .inr (.inr (.inl ⟨cs,rfl,rfl⟩))
    | row _ _ _ _=>cases h
    | gone=>cases h
    | tree _ _ _ _=>cases h
   | row s xs e f=>cases o' with
    | box cs'=>cases h
    | row s' xs' e' f'=>simp only[WS] at h;obtain⟨rfl,rfl⟩:=h;exact .inl ⟨_,_,_,_,_,_,rfl,rfl⟩
    | gone=>cases h
    | tree _ _ _ _=>cases h
   | gone=>cases o' with
    | box cs'=>cases h
    | row _ _ _ _=>cases h
    | gone=>exact .inr (.inr (.inr (.inl ⟨rfl,rfl⟩)))
    | tree _ _ _ _=>cases h
   | tree s n xs l=>cases o' with
    | box cs'=>cases h
    | row _ _ _ _=>cases h
    | gone=>cases h
    | tree s' n' xs' l'=>simp only[WS] at h;obtain⟨rfl,rfl,rfl,rfl⟩:=h;exact .inr (.inr (.inr (.inr ⟨_,_,_,_,rfl,rfl⟩)))
section
variable {g:List Nat} {o o' : Option Zg}
theorem Zjk (h:WS g o o') (sz id n:Nat):Ux sz id n o'=Ux sz id n o:=by
 rcases WT h with ⟨s,xs,e,f,e',f',rfl,rfl⟩ | ⟨rfl,rfl⟩ | ⟨cs,rfl,rfl⟩ | ⟨rfl,rfl⟩ | ⟨s,n,xs,l,rfl,rfl⟩<;>rfl
theorem Zhr (h:WS g o o') (sz id off m n:Nat):W0 sz id off m n o'=W0 sz id off m n o:=by
 rcases WT h with ⟨s,xs,e,f,e',f',rfl,rfl⟩ | ⟨rfl,rfl⟩ | ⟨cs,rfl,rfl⟩ | ⟨rfl,rfl⟩ | ⟨s,n,xs,l,rfl,rfl⟩<;>rfl
theorem Zhs (h:WS g o o') (s id:Nat) (lo hi:Option AV):W1 s id lo hi o'=W1 s id lo hi o:=by
 rcases WT h with ⟨s,xs,e,f,e',f',rfl,rfl⟩ | ⟨rfl,rfl⟩ | ⟨cs,rfl,rfl⟩ | ⟨rfl,rfl⟩ | ⟨s,n,xs,l,rfl,rfl⟩<;>rfl
theorem ZfU (h:WS g o o') (s id off n:Nat) (lo hi:Option AV):VO s id off n lo hi o'=VO s id off n lo hi o:=by
 rcases WT h with ⟨s,xs,e,f,e',f',rfl,rfl⟩ | ⟨rfl,rfl⟩ | ⟨cs,rfl,rfl⟩ | ⟨rfl,rfl⟩ | ⟨s,n,xs,l,rfl,rfl⟩<;>rfl
theorem Zjl {i off:Nat} {l:Option (Option Nat×Nat×Nat)} {x:D} {v:AV} (h:Vj i off l x=some v) (hk:kill g v=v):Vj i off (X6 g l) x=some v:=by
 unfold Vj at h ⊢;split at h
 ·unfold Zey at h;split at h
  ·rename_i nm i' c;split at h
   ·rename_i hc;cases h;have:g.contains nm=false:=by
     cases hg:g.contains nm with
     | false=>rfl
     | true=>simp only[kill,Zw,ZK,hg,Kh] at hk;cases hk
    simp only[X6,this,Ka,Kg,Zey,hc,and_self,Kh]
   ·cases h
  ·cases h
 ·exact h
 ·cases h
theorem Zjm {i off:Nat} {l:Option (Option Nat×Nat×Nat)} {x:D} {v:AV} (h:Vj i off (X6 g l) x=some v):Vj i off l x=some v∧kill g v=v:=by
 unfold Vj at h ⊢;split at h
 ·unfold Zey at h;split at h
  ·rename_i nm i' c hl;split at h
   ·rename_i hc;cases h;unfold X6 at hl;split at hl
    ·rename_i ab q;split at hl
     ·cases hl
     ·rename_i hg;cases hl;simp only[Bool.not_eq_true] at hg;exact⟨by simp only[Zey,hc,and_self,Kh],by simp only[kill,Zw,ZK,hg,Ka,Kg]⟩
    ·rename_i aa;subst hl;exact absurd rfl (aa _ _)
   ·cases h
  ·cases h
 ·split at h
  ·rename_i hp;cases h;exact⟨by rw[Ko hp],rfl⟩
  ·cases h
 ·cases h
theorem ZcJ {id:Nat} (h:WS g o o') {a:Bool} {s sz i off:Nat} {v:AV}:(Vk id a s sz i off o=some v→kill g v=v→Vk id a s sz i off o'=some v)∧(Vk id a s sz i off o'=some v→Vk id a s sz i off o=some v∧kill g v=v):=by
 have aa:∀ {cs:List D},WY a s off cs=some v→∃ d,v=.d d:=by
  intro cs h;unfold WY at h;split at h
  ·split at h
   ·cases h;exact⟨_,rfl⟩
   ·cases h
  ·unfold asD at h;obtain⟨y,_,h⟩:=Za h;cases h;exact⟨_,rfl⟩
 rcases WT h with ⟨s,xs,e,f,e',f',rfl,rfl⟩ | ⟨rfl,rfl⟩ | ⟨cs,rfl,rfl⟩ | ⟨rfl,rfl⟩ | ⟨s,n,xs,l,rfl,rfl⟩
 ·refine⟨fun h _=>h,fun h=>⟨h,?_⟩⟩;simp only[Vk] at h;split at h
  ·obtain⟨x,_,h⟩:=Za h;unfold ZcP at h;split at h
   ·obtain⟨d,rfl⟩:=aa h;rfl
   ·cases h
  ·cases h
 ·exact⟨fun h _=>(by cases h),fun h=>(by cases h)⟩
 ·exact⟨fun h _=>(by cases h),fun h=>(by cases h)⟩
 ·exact⟨fun h _=>(by cases h),fun h=>(by cases h)⟩
 ·simp only[Vk];split
  ·split
   ·exact⟨fun h _=>(by cases h),fun h=>(by cases h)⟩
   ·constructor
    ·intro hh hk;obtain⟨x,h1,hh⟩:=Za hh;rw[h1,Zc];exact Zjl hh hk
    ·intro hh;obtain⟨x,h1,hh⟩:=Za hh;rw[h1,Zc];exact Zjm hh
  ·exact⟨fun h _=>(by cases h),fun h=>(by cases h)⟩
end
section
variable {hp hp' : Hp} {g:List Nat}
def ZcK (g:List Nat) (hp hp' : Hp) (v:AV):Prop:=∀ k∈Zl v,WS g (lkp hp k) (lkp hp' k)
theorem U7 {v:AV} (h:ZcK g hp hp' v):UK hp' v=UK hp v:=by
 cases v<;>simp only[UK]
 case d x=>cases x<;>rfl
 case own id=>rw[Zl3 (h id (by simp[Zl,Zn,Ze]))]
theorem Wp {v:AV} (h:ZcK g hp hp' v) (sz n:Nat):Z6 hp' sz n v=Z6 hp sz n v:=by
 cases v<;>simp only[Z6]
 case d x=>cases x<;>rfl
 case own id=>rw[Zjk (h id (by simp[Zl,Zn,Ze]))]
 case ownv id off n=>rw[Zhr (h id (by simp[Zl,Zn,Ze]))]
theorem Zau {v:AV} (h:ZcK g hp hp' v) (s:Nat) (lo hi:Option AV):XS hp' s lo hi v=XS hp s lo hi v:=by
 cases v<;>simp only[XS]
 case d x=>cases x<;>rfl
 case own id=>rw[Zhs (h id (by simp[Zl,Zn,Ze]))]
 case ownv id off n=>rw[ZfU (h id (by simp[Zl,Zn,Ze]))]
theorem Zn0 {x v:AV} (hs:ZcK g hp hp' x) {a:Bool} {s:Nat} (h:YI hp a s x=some v) (ho:okV v=true) (hk:kill g v=v):YI hp' a s x=some v:=by
 cases x<;>simp only[YI] at h ⊢ <;> first | (cases h;done) | skip
 case ptr id off=>
  rcases WT (hs id (by simp[Zl,Zn,Ze])) with ⟨_,_,_,_,_,_,e1,e2⟩ | ⟨e1,e2⟩ | ⟨cs,e1,e2⟩ | ⟨e1,e2⟩ | ⟨_,_,_,_,e1,e2⟩
  ·rw[e1] at h;cases h
  ·rw[e1] at h;cases h
  ·rw[e1] at h;rw[e2];exact ZkE h ho hk
  ·rw[e1] at h;cases h
  ·rw[e1] at h;cases h
 case prow id sz i off=>exact(ZcJ (hs id (by simp[Zl,Zn,Ze]))).1 h hk
 case pim cs=>exact h
theorem Zpb {a:Bool} {s off:Nat} {cs:List D} {v:AV} (h:WY a s off cs=some v):∃ d,v=.d d:=by
 unfold WY at h;split at h
 ·split at h
  ·cases h;exact⟨_,rfl⟩
  ·cases h
 ·unfold asD at h;obtain⟨y,_,h⟩:=Za h;cases h;exact⟨_,rfl⟩
theorem Zn1 {x v:AV} (hs:ZcK g hp hp' x) {a:Bool} {s:Nat} (h:YI hp' a s x=some v) (ho:okV v=true):YI hp a s x=some v∧kill g v=v:=by
 cases x<;>simp only[YI] at h ⊢ <;> first | (cases h;done) | skip
 case ptr id off=>
  rcases WT (hs id (by simp[Zl,Zn,Ze])) with ⟨_,_,_,_,_,_,e1,e2⟩ | ⟨e1,e2⟩ | ⟨cs,e1,e2⟩ | ⟨e1,e2⟩ | ⟨_,_,_,_,e1,e2⟩
  ·rw[e2] at h;cases h
  ·rw[e2] at h;cases h
  ·rw[e2] at h;rw[e1];exact ZkF h ho
  ·rw[e2] at h;cases h
  ·rw[e2] at h;cases h
 case prow id sz i off=>
  exact(ZcJ (hs id (by simp[Zl,Zn,Ze]))).2 h
 case pim cs=>
  obtain⟨d,rfl⟩:=Zpb h;exact⟨h,rfl⟩
theorem Zer {x:AV} {d:D} {e:Bool} (h:Ww hp x=some (d,e,[])) (hp' : Hp):Ww hp' x=some (d,e,[]):=by
 cases x<;>simp only[Ww] at h ⊢ <;> first | exact h | skip
 case own id=>obtain⟨q,_,h⟩:=Za h;simp at h
theorem Zes:∀ {xs:List AV} {d:List D} {e:Bool},XW hp xs=some (d,e,[])→∀ hp' : Hp,XW hp' xs=some (d,e,[])
 | [],d,e,h,hp'=>h
 | x :: xs,d,e,h,hp'=>by
  simp only[XW] at h ⊢;obtain⟨⟨d1,e1,l1⟩,h1,h⟩:=Za h;obtain⟨⟨d2,e2,l2⟩,h2,h⟩:=Za h;have hl:l1=[]∧l2=[]:=by
   simp only at h;split at h
   ·simp only[Option.some.injEq,Prod.mk.injEq,List.append_eq_nil_iff] at h;exact h.2.2
   ·cases h
  obtain⟨rfl,rfl⟩:=hl;rw[Zer h1 hp',Zc,Zes h2 hp',Zc];exact h
theorem Zl4 {x:AV} {d:D} {e:Bool} (h:give hp x=some (d,e,[])) (hp' : Hp):give hp' x=some (d,e,[]):=by
 cases x<;>simp only[give] at h ⊢ <;> first | exact Zer h hp' | skip
 case agg cs=>
  obtain⟨⟨d1,e1,l1⟩,h1,h⟩:=Za h;simp only[Option.some.injEq,Prod.mk.injEq] at h;obtain⟨rfl,rfl,rfl⟩:=h;rw[Zes h1 hp',Zc]
theorem ZbG:∀ {xs:List AV} {d:List D} {e:Bool},Yr hp xs=some (d,e,[])→∀ hp' : Hp,Yr hp' xs=some (d,e,[])
 | [],d,e,h,hp'=>h
 | x :: xs,d,e,h,hp'=>by
  simp only[Yr] at h ⊢;obtain⟨⟨d1,e1,l1⟩,h1,h⟩:=Za h;obtain⟨⟨d2,e2,l2⟩,h2,h⟩:=Za h;have hl:l1=[]∧l2=[]:=by
   simp only at h;split at h
   ·simp only[Option.some.injEq,Prod.mk.injEq,List.append_eq_nil_iff] at h;exact h.2.2
   ·cases h
  obtain⟨rfl,rfl⟩:=hl;rw[Zl4 h1 hp',Zc,ZbG h2 hp',Zc];exact h
theorem ZbH {base s:Nat} {vs:List AV} {ce:Zb} (h:buildSl hp base s vs=some ce) (hf:ce.eff.frz=[]) (hp' : Hp) :
  buildSl hp' base s vs=some ce∧(ce.eff.val=.nil∨ce.eff.val=.own base)∧(∀ k o,(k,o)∈ce.eff.adds→∃ sz xs e f,o=.row sz xs e f):=by
 cases vs with
 | nil=>simp only[buildSl,Qf] at h ⊢;cases h;exact⟨rfl,.inl rfl,fun k o h=>by simp at h⟩
 | cons v vs=>
  simp only[buildSl] at h ⊢;obtain⟨⟨ds,e,l⟩,h1,h⟩:=Za h;unfold Zog at h;split at h
  ·rename_i hc;cases h;simp only at hf;subst hf;rw[ZbG h1 hp',Zc];refine⟨?_,.inr rfl,fun k o ho=>?_⟩
   ·unfold Zog;rw[Ko hc]
   ·simp at ho;obtain⟨rfl,rfl⟩:=ho;exact⟨_,_,_,_,rfl⟩
  ·cases h
end
theorem ZcL {C:Orc} {M:Zf} {sl:Sl} {hp hp' : Hp} {base:Nat} {c:COp} (hc:Yg c=true):vop C M sl hp base c=vop C M sl hp' base c:=by
 cases c<;>first | rfl | (simp[Yg] at hc)
section
variable {C:Orc} {M:Zf} {sl sl' : Sl} {hp hp' : Hp} {base:Nat} {g:List Nat}
theorem ZI {v:AV} {ce:Zb} (h:Qf v=some ce):ce.eff.adds=[]:=by cases h;rfl
theorem Qh {v:Option AV} {ce:Zb} (h:XT v=some ce):ce.eff.adds=[]:=by obtain⟨v,_,h⟩:=Za h;exact ZI h
theorem V9 {v:Option AV} {ce:Zb} (h:XT v=some ce):v=some ce.eff.val:=by obtain⟨v,rfl,h⟩:=Za h;cases h;rfl
theorem Zm7 {v:Option AV} {ce:Zb} {w:Option AV} (h:XT v=some ce) (hw:w=some ce.eff.val):XT w=some ce:=by
 obtain⟨v,rfl,h⟩:=Za h;cases h;rw[hw];rfl
theorem Zl5 {c:COp} (hc:Yg c=true) (hv:Zmn c=true) {ce:Zb} (h:vop C M sl hp base c=some ce):ce.eff.adds=[]:=by
 cases c<;>simp only[Yg,Zmn,Ka] at hc hv<;>simp only[vop] at h
 case stuck=>cases h
 case move x=>exact ZI h
 case pick c a b=>
  unfold ZaF at h;split at h
  ·split at h<;>exact ZI h
  ·cases h
 case build zs ps=>obtain⟨cs,_,h⟩:=Za h;exact ZI h
 case nilCheck x=>unfold VQ at h;split at h<;>first | exact ZI h | cases h
 case bin op eq x y=>
  unfold ZeR at h;split at h
  ·split at h
   ·exact Qh h
   ·cases h
  ·exact Qh h
 case un op x=>exact Qh h
 case eqA neg n x y=>
  unfold Zjx at h;split at h
  ·obtain⟨r,_,h⟩:=Za h;exact ZI h
  ·cases h
 case convI k x=>unfold Go.Abs.convI at h;split at h<;>first | exact ZI h | cases h
 case convS x=>unfold Go.Abs.convS at h;split at h<;>first | exact ZI h | cases h
 case sliceS x lo hi=>exact Qh h
 case shift off x=>unfold Ye at h;split at h<;>first | exact ZI h | cases h
 case part g s off x=>exact Qh h
 case iaA len s x i=>
  obtain⟨n,_,h⟩:=Za h;unfold Zgb at h;split at h
  ·unfold Ye at h;split at h<;>first | exact ZI h | cases h
  ·cases h
 case ixS x i=>
  obtain⟨n,_,h⟩:=Za h;unfold Zme at h;split at h
  ·unfold ZkU at h;split at h
   ·obtain⟨b,_,h⟩:=Za h;exact ZI h
   ·cases h
  ·cases h
 case ixA g s len x i=>
  obtain⟨n,_,h⟩:=Za h;unfold Zoh at h;split at h
  ·exact Qh h
  ·cases h
 case nth i x=>unfold ZkV at h;split at h<;>first | exact Qh h | cases h
 case lenS x=>obtain⟨n,_,h⟩:=Za h;exact ZI h
 case min x y=>unfold Zez at h;split at h<;>first | (split at h<;>first | exact ZI h | cases h) | cases h
 case max x y=>unfold ZeA at h;split at h<;>first | (split at h<;>first | exact ZI h | cases h) | cases h
theorem Zet {c:AV} (h:UQ c=true):Zw g c=c:=by cases c<;>first | rfl | cases h
theorem Jz:∀ {cs:List AV},XI cs=true→∀ c∈cs,UQ c=true
 | [],_,c,hc=>by simp at hc
 | x :: l,h,c,hc=>by
  simp only[XI,Kb] at h;rcases Kf.1 hc with rfl | hc
  ·exact h.1
  ·exact Jz h.2 c hc
theorem ZdC:∀ (slc:List (Option Nat)) (cs:List AV) (b:Nat),(∀ c∈(mat slc cs b).1,c∈cs∨∃ k o,c=.own k∧(k,o)∈(mat slc cs b).2)∧∀ k o,(k,o)∈(mat slc cs b).2→∃ sz,o=.row sz [] true false
 | [],cs,b=>by simp only[mat];exact⟨fun c hc=>.inl hc,fun k o h=>by simp at h⟩
 | t :: ts,[],b=>by cases t<;>(simp only[mat];exact⟨fun c hc=>.inl hc,fun k o h=>by simp at h⟩)
 | t :: ts,v :: vs,b=>by
  by_cases hv:(∃ sz,t=some sz)∧v=.nil
  ·obtain⟨⟨sz,rfl⟩,rfl⟩:=hv;obtain⟨h1,h2⟩:=ZdC ts vs (b+1);simp only[mat];refine⟨fun c hc=>?_,fun k o h=>?_⟩
   ·rcases Kf.1 hc with rfl | hc
    ·exact .inr ⟨b,_,rfl,KV ..⟩
    ·rcases h1 c hc with h | ⟨k,o,e,h⟩
     ·exact .inl (Kn _ h)
     ·exact .inr ⟨k,o,e,Kn _ h⟩
   ·rcases Kf.1 h with h | h
    ·cases h;exact⟨_,rfl⟩
    ·exact h2 k o h
  ·obtain⟨h1,h2⟩:=ZdC ts vs b;have e:mat (t :: ts) (v :: vs) b=(v :: (mat ts vs b).1,(mat ts vs b).2):=by
    cases t with
    | none=>simp[mat]
    | some sz=>cases v<;>first | (exact absurd ⟨⟨sz,rfl⟩,rfl⟩ hv) | simp[mat]
   rw[e];refine⟨fun c hc=>?_,h2⟩;rcases Kf.1 hc with rfl | hc
   ·exact .inl (KV ..)
   ·rcases h1 c hc with h | h
    ·exact .inl (Kn _ h)
    ·exact .inr h
theorem Zie {base:Nat}:∀ {cs:List AV},XI cs=true→cs.map (Zb8 base)=cs
 | [],_=>rfl
 | c :: cs,h=>by
  simp only[XI,Kb] at h;rw[Kw,Zie h.2];congr 1
  cases c<;>first | rfl | (simp[UQ] at h)
theorem Zif:∀ {cs:List AV},XI cs=true→QP cs=true
 | [],_=>rfl
 | c :: cs,h=>by
  simp only[XI,Kb] at h;have:=Zif h.2;cases c<;>first | exact this | (simp[UQ] at h)
theorem Zeu {slc:List (Option Nat)} {cs:List AV} {ce:Zb} (hb:∀ k,base≤k→k<base+64→k∉g) (hc:XI cs=true) (h:ZaG slc base cs=some ce) (ad:Qn base (base+64) ce.eff.adds=true) :
  (∀ id∈Zl ce.eff.val,id∉g)∧∀ k o,(k,o)∈ce.eff.adds→QC g o=o:=by
 have hr:=Y8 ad;unfold ZaG at h;rw[Zie hc] at h;unfold Zf8 at h;rw[Kk (by rw[Zif hc];decide)] at h;split at h
 ·cases h;simp only at hr ⊢;obtain⟨h1,h2⟩:=ZdC slc cs (base+1);refine⟨fun id aa=>?_,fun k o hm=>?_⟩
  ·simp[Zl,Zn,Ze] at aa;subst aa;exact hb _ (Ke _) (by omega)
  ·rcases Kf.1 hm with hm | hm
   ·cases hm;simp only[QC];congr 1
    rw[KB (g:=id),Lk];intro c ab;rcases h1 c ab with h | ⟨k,o,rfl,h⟩
    ·exact Zet (Jz hc c h)
    ·have:=hr k o (Kn _ h);have hk:=hb k this.1 this.2;simp[Zw,ZK,hk]
   ·obtain⟨sz,rfl⟩:=h2 k o hm;rfl
 ·cases h;simp only at hr ⊢;refine⟨fun id aa=>?_,fun k o hm=>?_⟩
  ·simp[Zl,Zn,Ze] at aa;subst aa;exact hb _ (Ke _) (by omega)
  ·simp at hm;obtain⟨rfl,rfl⟩:=hm;simp only[QC];congr 1
   rw[KB (g:=id),Lk];exact fun c ab=>Zet (Jz hc c ab)
theorem Zn2 {c:COp} (hc:Zgp c=true) (he:∀ x∈Zq c,evO sl' x=evO sl x) (hs:∀ x∈Zq c,ZcK g hp hp' (evO sl x)) {ce:Zb}
  (hb:∀ k,base≤k→k<base+64→k∉g) (h:vop C M sl hp base c=some ce) (ab:Qn base (base+64) ce.eff.adds=true) (ad:ce.eff.frz=[]) (ho:okV ce.eff.val=true) (hk:kill g ce.eff.val=ce.eff.val):vop C M sl' hp' base c=some ce∧∀ k o,(k,o)∈ce.eff.adds→QC g o=o:=by
 rw[Qx C M hp' base he];have aa:ce.eff.adds=[]→∀ k o,(k,o)∈ce.eff.adds→QC g o=o:=fun e k o hm=>by rw[e] at hm;simp at hm
 simp only[Zgp,Lf,Kb] at hc;rcases hc with ((hc | hc) | ⟨hc1,hc2⟩) | hc
 ·cases c<;>simp only[Vq,Ka] at hc<;>simp only[vop] at h ⊢ <;> simp only[Zq] at hs
  case load a s x=>exact⟨Zm7 h (Zn0 (hs x (by simp)) (V9 h) ho hk),aa (Qh h)⟩
  case slice s x lo hi=>
   rw[Zau (hs x (by simp))];exact⟨h,aa (Qh h)⟩
  case slice0 x hi mx=>
   unfold slice0 at h ⊢;rw[U7 (hs x (by simp))];exact⟨h,aa (Qh h)⟩
  case iaS s x i=>
   obtain⟨n,h1,h⟩:=Za h;rw[h1,Zc];unfold ZbN at h ⊢;rw[Wp (hs x (by simp))];refine⟨h,aa ?_⟩;split at h
   ·exact Qh h
   ·cases h
  case len x=>
   rw[U7 (hs x (by simp))];refine⟨h,aa ?_⟩;obtain⟨n,_,h⟩:=Za h;exact ZI h
 ·cases c<;>simp only[Zix,Ka] at hc
  simp only[vop] at h ⊢;obtain⟨h1,h2,h3⟩:=ZbH h ad hp';refine⟨h1,fun k o hm=>?_⟩;obtain⟨sz,xs,e,f,rfl⟩:=h3 k o hm;rfl
 ·rw[← ZcL (hp:=hp) hc1];exact⟨h,aa (Zl5 hc1 hc2 h)⟩
 ·cases c<;>simp only[Zfh,Ka] at hc
  simp only[vop] at h ⊢;exact⟨h,(Zeu hb hc h ab).2⟩
theorem Zl6 {c:COp} (hc:Zc2 c=true) (he:∀ x∈Zq c,evO sl' x=evO sl x) (hs:∀ x∈Zq c,ZcK g hp hp' (evO sl x)) {ce:Zb}
  (hn:∀ x∈Zq c,∀ id∈Zl (evO sl x),id∉g) (hb:∀ k,base≤k→k<base+64→k∉g)
  (h:vop C M sl' hp' base c=some ce) (ad:Qn base (base+64) ce.eff.adds=true) (ae:ce.eff.frz=[]) (ho:okV ce.eff.val=true):vop C M sl hp base c=some ce∧kill g ce.eff.val=ce.eff.val∧∀ k o,(k,o)∈ce.eff.adds→QC g o=o:=by
 rw[Qx C M hp' base he] at h;have aa:ce.eff.adds=[]→∀ k o,(k,o)∈ce.eff.adds→QC g o=o:=fun e k o hm=>by rw[e] at hm;simp at hm
 have names:(∀ id∈Zl ce.eff.val,id∉g)→kill g ce.eff.val=ce.eff.val:=Zm6 ho;cases c<;>simp only[Zc2,Ka] at hc<;>simp only[vop] at h ⊢ <;> simp only[Zq] at hs hn
 case alloc slc cs=>
  obtain⟨h1,h2⟩:=Zeu hb hc h ad;exact⟨h,names h1,h2⟩
 case buildSl s xs=>
  obtain⟨h1,h2,h3⟩:=ZbH h ae hp;refine⟨h1,names fun id ab=>?_,fun k o hm=>?_⟩
  ·rcases h2 with h2 | h2
   ·rw[h2] at ab;simp[Zl,Zn,Ze] at ab
   ·rw[h2] at ab;simp[Zl,Zn,Ze] at ab;subst ab;exact hb _ (Ke _) (by omega)
  ·obtain⟨sz,xs,e,f,rfl⟩:=h3 k o hm;rfl
 case load a s x=>
  obtain⟨h1,h2⟩:=Zn1 (hs x (by simp)) (V9 h) ho;exact⟨Zm7 h h1,h2,aa (Qh h)⟩
 case nilCheck x=>
  have hx:=hn x (by simp);refine⟨h,names ?_,aa ?_⟩
  ·unfold VQ at h;split at h<;>rename_i hv<;>first | (cases h;done) | (cases h;show ∀ id∈Zl _,_;rw[← hv];exact hx)
  ·unfold VQ at h;split at h<;>first | exact ZI h | cases h
 case bin op eq x y=>
  have hd:∃ d,ce.eff.val=.d d:=by
   have o2:∀ {a b:AV},XT (vbin op a b)=some ce→∃ d,ce.eff.val=.d d:=fun {a b} h=>by
    have h1:=V9 h;unfold vbin at h1;split at h1
    ·unfold VK at h1;split at h1
     ·obtain⟨y,_,h1⟩:=Za h1;exact⟨_,(Option.some.inj h1).symm⟩
     ·obtain⟨y,_,h1⟩:=Za h1;exact⟨_,(Option.some.inj h1).symm⟩
     ·split at h1
      ·obtain⟨y,_,h1⟩:=Za h1;have:=Option.some.inj h1;exact⟨_,this.symm⟩
      ·cases h1
    ·obtain⟨y,_,h1⟩:=Za h1;have:=Option.some.inj h1;exact⟨_,this.symm⟩
    ·cases h1
   unfold ZeR at h;split at h
   ·split at h
    ·have h1:=V9 h;unfold Zh1 at h1;split at h1
     ·exact⟨_,(Option.some.inj h1).symm⟩
     ·exact⟨_,(Option.some.inj h1).symm⟩
     ·cases h1
    ·cases h
   ·exact o2 h
  obtain⟨d,hd⟩:=hd;refine⟨h,by rw[hd];rfl,aa ?_⟩;unfold ZeR at h;split at h
  ·split at h
   ·exact Qh h
   ·cases h
  ·exact Qh h
 case un op x=>
  have hd:∃ d,ce.eff.val=.d d:=by
   have h1:=V9 h;unfold vun at h1;split at h1
   ·unfold neg1 at h1;split at h1
    ·exact⟨_,(Option.some.inj h1).symm⟩
    ·cases h1
   ·unfold not1 at h1;split at h1
    ·exact⟨_,(Option.some.inj h1).symm⟩
    ·cases h1
   ·cases h1
  obtain⟨d,hd⟩:=hd;exact⟨h,by rw[hd];rfl,aa (Qh h)⟩
 case convI k x=>
  unfold Go.Abs.convI at h ⊢;split at h
  ·exact⟨h,by cases h;rfl,aa (ZI h)⟩
  ·cases h
 case shift off x=>
  have hx:=hn x (by simp);refine⟨h,names ?_,aa ?_⟩
  ·unfold Ye at h;split at h<;>rename_i hv<;>first | (cases h;done) | skip
   ·cases h;rw[hv] at hx;simpa [Zl,Zn,Ze] using hx
   ·cases h;rw[hv] at hx;simpa [Zl,Zn,Ze] using hx
   ·cases h;simp[Zl,Zn,Ze]
  ·unfold Ye at h;split at h<;>first | exact ZI h | cases h
 case slice s x lo hi=>
  have hx:=hn x (by simp);rw[Zau (hs x (by simp))] at h;refine⟨h,names ?_,aa (Qh h)⟩;have h1:=V9 h;cases hv:evO sl x<;>rw[hv] at h1 hx<;>simp only[XS] at h1<;>first | (cases h1;done) | skip
  case d y=>
   cases y<;>simp only[XS] at h1<;>first | (cases h1;done) | skip
   split at h1
   ·obtain⟨b,_,h1⟩:=Za h1;rw[← Option.some.inj h1];simp[Zl,Zn,Ze]
   ·cases h1
  case nil=>obtain⟨b,_,h1⟩:=Za h1;rw[← Option.some.inj h1];simp[Zl,Zn,Ze]
  case own id=>
   unfold W1 at h1;split at h1
   ·split at h1
    ·unfold ZkS at h1;split at h1
     ·rw[← Option.some.inj h1];exact hx
     ·obtain⟨b,_,h1⟩:=Za h1;rw[← Option.some.inj h1];simpa [Zl,Zn,Ze] using hx
    ·cases h1
   ·cases h1
  case ownv id off n=>
   unfold VO at h1;split at h1
   ·split at h1
    ·obtain⟨b,_,h1⟩:=Za h1;rw[← Option.some.inj h1];simpa [Zl,Zn,Ze] using hx
    ·cases h1
   ·cases h1
 case sliceS x lo hi=>
  have hd:∃ d,ce.eff.val=.d d:=by
   have h1:=V9 h;unfold sliceS at h1;split at h1
   ·obtain⟨b,_,h1⟩:=Za h1;exact⟨_,(Option.some.inj h1).symm⟩
   ·cases h1
  obtain⟨d,hd⟩:=hd;exact⟨h,by rw[hd];rfl,aa (Qh h)⟩
 case lenS x=>
  obtain⟨n,h1,h⟩:=Za h;refine⟨by rw[h1,Zc];exact h,by cases h;rfl,aa (ZI h)⟩
 case iaS s x i=>
  have hx:=hn x (by simp);obtain⟨n,h1,h⟩:=Za h;rw[h1,Zc];unfold ZbN at h ⊢;rw[Wp (hs x (by simp))] at h;refine⟨h,names ?_,aa ?_⟩
  ·split at h
   ·have h1:=V9 h;cases hv:evO sl x<;>rw[hv] at h1 hx<;>simp only[Z6] at h1<;>first | (cases h1;done) | skip
    case d y=>
     cases y<;>simp only[Z6] at h1<;>first | (cases h1;done) | skip
     obtain⟨b,_,h1⟩:=Za h1;unfold Zng at h1;split at h1
     ·rw[← Option.some.inj h1];simp[Zl,Zn,Ze]
     ·cases h1
    case own id=>
     unfold Ux at h1;split at h1
     ·split at h1
      ·rw[← Option.some.inj h1];simpa [Zl,Zn,Ze] using hx
      ·cases h1
     ·split at h1
      ·rw[← Option.some.inj h1];simpa [Zl,Zn,Ze] using hx
      ·cases h1
     ·cases h1
    case ownv id off n=>
     unfold W0 at h1;split at h1
     ·split at h1
      ·rw[← Option.some.inj h1];simpa [Zl,Zn,Ze] using hx
      ·cases h1
     ·cases h1
   ·cases h
  ·split at h
   ·exact Qh h
   ·cases h
 case len x=>
  rw[U7 (hs x (by simp))] at h;obtain⟨n,h1,h2⟩:=Za h;exact⟨h,by cases h2;rfl,aa (ZI h2)⟩
end
end Go.Abs
