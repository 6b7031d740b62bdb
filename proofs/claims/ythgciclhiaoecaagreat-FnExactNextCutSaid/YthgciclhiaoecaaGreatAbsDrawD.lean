/- Own text. -/
import Derived.Test.YthgciclhiaoecaaGreatAbsDraw3
import Derived.Test.YthgciclhiaoecaaGreatAbsSound5
set_option linter.unusedVariables false
set_option linter.unusedSimpArgs false
namespace Go.Abs
open Go
theorem ZyD {v:AV} (h:okC v=true):okV v=true:=by
 cases v<;>first | exact h | cases h
theorem Znm {g:List Nat} {v:AV} (h:okC (Qd g v)=true):Qd g v=v:=by
 cases v<;>simp only[Qd] at h ⊢ <;> first | rfl | (split at h<;>rename_i h' <;> first | (cases h;done) | rw[Kg h'])
theorem ZkL {g:List Nat}:∀ {cs:List AV},Zu3 (cs.map (Qd g))=true→cs.map (Qd g)=cs
 | [],_=>rfl
 | c :: cs,h=>by
  simp only[Ko,Zu3,Kd] at h ⊢;rw[Znm h.1,ZkL h.2]
theorem ZeB {g:List Nat} {v:AV} (h:okV (ZS g v)=true):ZS g v=v:=by
 cases v with
 | agg cs=>simp only[ZS,okV] at h ⊢;rw[ZkL h]
 | clo f cs=>simp only[ZS,okV,okC] at h;cases h
 | tup vs=>rfl
 | _=>
  simp only[ZS] at h ⊢;refine Znm ?_;revert h;simp only[Qd]
  first | exact id | (split<;>first | exact id | (intro h;cases h))
theorem ZcG {g:List Nat} {v:AV} (h:okV (kill g v)=true):kill g v=v:=by
 cases v with
 | tup vs=>
  cases vs with
  | nil=>rfl
  | cons x r=>simp only[kill,Ko,okV,okC] at h;cases h
 | _=>simp only[kill] at h ⊢;exact ZeB h
theorem Zwg {g:List Nat} {v:AV} (hn:∀ id∈Zl v,id∉g):Qd g v=v:=by
 cases v<;>simp only[Qd]<;>first | rfl | (rw[Kg];simpa [Zl] using hn)
theorem ZyE {g:List Nat} {v:AV} (h:okV v=true) (hn:∀ id∈Zw v,id∉g):kill g v=v:=by
 cases v with
 | tup vs=>
  cases vs with
  | nil=>rfl
  | cons x r=>simp only[okV,okC] at h;cases h
 | clo f cs=>simp only[okV,okC] at h;cases h
 | agg cs=>
  simp only[kill,ZS];congr 1
  rw[KR (g:=id),LJ];intro c hc;exact Zwg fun id aa=>hn id (by simp only[Zw,Zy,Ku];exact⟨c,hc,aa⟩)
 | _=>simp only[kill,ZS];exact Zwg hn
theorem ZBd {g:List Nat} {v:AV} (h:kill g v=v):∀ id∈Zw v,id∉g:=fun id aa=>(Zth g v id (by rw[h];exact aa)).2
theorem Zzy {g:List Nat} {c:AV} (h:okC c=true) (h1:Qd g c=c):ZS g c=c:=by
 cases c<;>simp only[ZS]<;>first | exact h1 | cases h
def ZcH (g:List Nat):Option Zn→Option Zn→Prop
 | none,none=>True
 | some (.row s xs _ _),some (.row s' xs' _ _)=>s'=s∧xs'=xs
 | some (.box cs),some (.box cs')=>cs'=cs.map (ZS g)
 | some (.tree s n xs l),some (.tree s' n' xs' l')=>s'=s∧n'=n∧xs'=xs∧l'=Wt g l
 | some .gone,some .gone=>True
 | _,_=>False
theorem Zwh {g:List Nat} {b:Bool} (o:Option Zn):ZcH g o ((o.map (Xh g)).map fun o=>if b then Vt o else o):=by
 cases o with
 | none=>trivial
 | some o=>cases o<;>cases b<;>exact(by first | exact⟨rfl,rfl⟩ | exact rfl | exact⟨rfl,rfl,rfl,rfl⟩ | exact trivial)
theorem Ztu {g:List Nat}:∀ {l:List AV} {ds:List D},Zfq l=some ds→l.map (ZS g)=l
 | [],ds,_=>rfl
 | v :: l,ds,h=>by
  simp only[Zfq] at h;obtain⟨x,h1,h⟩:=Za h;obtain⟨aa,h2,h⟩:=Za h;have:ZS g v=v:=by cases v<;>first | rfl | cases h1
  rw[Ko,this,Ztu h2]
theorem Zre {g:List Nat}:∀ {l:List AV} {ds:List D},Zfq (l.map (ZS g))=some ds→l.map (ZS g)=l
 | [],ds,_=>rfl
 | v :: l,ds,h=>by
  simp only[Ko,Zfq] at h;obtain⟨x,h1,h⟩:=Za h;obtain⟨aa,h2,h⟩:=Za h;have hv:ZS g v=v:=by
   refine ZeB ?_;cases hk:ZS g v<;>rw[hk] at h1<;>first | rfl | cases h1
  rw[Ko,hv,Zre h2]
theorem ZhS (l:List AV):(∃ ds,Zfq l=some ds∧JQ l=.d (.agg ds))∨(Zfq l=none∧(JQ l=.junk∨JQ l=.agg l)):=by
 unfold JQ;cases h:Zfq l with
 | some ds=>exact .inl ⟨ds,rfl,rfl⟩
 | none=>
  refine .inr ⟨rfl,?_⟩;unfold UD;split
  ·rename_i h;cases h
  ·split
   ·exact .inl rfl
   ·exact .inr rfl
theorem Zl8:∀ {l:List AV},Zu3 l=true→∀ c∈l,okC c=true
 | [],_,c,hc=>by simp at hc
 | x :: l,h,c,hc=>by
  simp only[Zu3,Kd] at h;rcases Kf.1 hc with rfl | hc
  ·exact h.1
  ·exact Zl8 h.2 c hc
theorem Zzz {g:List Nat} {l:List AV} (h:okV (JQ l)=true) (hk:kill g (JQ l)=JQ l):l.map (ZS g)=l:=by
 rcases ZhS l with ⟨ds,h1,h2⟩ | ⟨h1,h2 | h2⟩
 ·exact Ztu h1
 ·rw[h2] at h;cases h
 ·rw[h2] at h hk;simp only[kill,ZS,AV.agg.injEq] at hk;simp only[okV] at h;have hm:=Zl8 h;have aa : ∀ c∈l,Qd g c=c:=by
   intro c hc;have:=ZkL (g:=g) (cs:=l) (by rw[hk];exact h);exact Znm (by
    have h3:Qd g c∈l.map (Qd g):=Kav hc;rw[hk] at h3;exact hm _ h3)
  rw[KR (g:=id),LJ];intro c hc;exact Zzy (hm c hc) (aa c hc)
theorem ZzA {g:List Nat} {l:List AV} (h:okV (JQ (l.map (ZS g)))=true):l.map (ZS g)=l:=by
 rcases ZhS (l.map (ZS g)) with ⟨ds,h1,h2⟩ | ⟨h1,h2 | h2⟩
 ·exact Zre h1
 ·rw[h2] at h;cases h
 ·rw[h2] at h;simp only[okV] at h;have hm:=Zl8 h;rw[KR (g:=id),LJ];intro c hc;exact ZeB (ZyD (hm _ (Kav hc)))
theorem ZxA {g:List Nat} {v:AV} (h:okV v=true) (hk:kill g v=v):ZS g v=v:=by
 cases v with
 | tup vs=>rfl
 | _=>simp only[kill] at hk;exact hk
theorem ZxB {g:List Nat} {v:AV} (h:okV v=true) (hk:ZS g v=v):kill g v=v:=by
 cases v with
 | tup vs=>
  cases vs with
  | nil=>rfl
  | cons x r=>simp only[okV,okC] at h;cases h
 | _=>simp only[kill];exact hk
theorem Zj5 {α β:Type} (f:α→β) (l:List α) (a b:Nat):((l.map f).drop a).take b=((l.drop a).take b).map f:=by
 rw[← List.map_drop,← List.map_take]
theorem ZoA (g:List Nat) (c:AV):Zmf (ZS g c)=ZS g (Zmf c):=by
 have aa:∀ v:AV,(∀ a b,v≠.bbuf a b)→Zmf v=v:=fun v h'=>by cases v<;>first | rfl | exact absurd rfl (h' _ _)
 by_cases h' : ∃ a b,c=.bbuf a b
 ·obtain⟨a,b,rfl⟩:=h';rfl
 ·have h2:∀ a b,c≠.bbuf a b:=fun a b e=>h' ⟨a,b,e⟩;rw[aa c h2,aa];exact fun a b e=>h2 a b ((UO g c a b).1 e)
theorem Zwi {g:List Nat} {cs:List AV} {a:Bool} {s off:Nat} {v:AV} (h:ZaW a s off (some (.box cs))=some v) (ho:okV v=true) (hk:kill g v=v):ZaW a s off (some (.box (cs.map (ZS g))))=some v:=by
 unfold ZaW at h ⊢;cases a with
 | true=>
  simp only[Km] at h ⊢;split at h
  ·rename_i hl;cases h;rw[Kj (by simpa using hl),Zj5,Zzz ho hk]
  ·cases h
 | false=>
  simp only[Ka,Kk] at h ⊢;obtain⟨c,hc,rfl⟩:=Option.map_eq_some_iff.1 h;rw[Ld,hc];simp only[Lh];rw[ZoA,ZxA ho hk]
theorem Zwj {g:List Nat} {cs:List AV} {a:Bool} {s off:Nat} {v:AV} (h:ZaW a s off (some (.box (cs.map (ZS g))))=some v) (ho:okV v=true):ZaW a s off (some (.box cs))=some v∧kill g v=v:=by
 unfold ZaW at h ⊢;cases a with
 | true=>
  simp only[Km] at h ⊢;split at h
  ·rename_i hl;cases h;rw[Zj5] at ho ⊢;have he:=ZzA ho;rw[he] at ho ⊢;refine⟨by rw[Kj (by simpa using hl)],?_⟩;rcases ZhS ((cs.drop off).take s) with ⟨ds,h1,h2⟩ | ⟨h1,h2 | h2⟩
   ·rw[h2];rfl
   ·rw[h2] at ho;cases ho
   ·rw[h2] at ho ⊢;simp only[okV] at ho;have hm:=Zl8 ho;simp only[kill,ZS,AV.agg.injEq];rw[KR (g:=id),LJ];intro c hc;have h3:ZS g c=c:=by
     refine ZeB ?_;have h4:ZS g c∈((cs.drop off).take s).map (ZS g):=Kav hc;rw[he] at h4;exact ZyD (hm _ h4)
    have:=hm c hc;cases c<;>first | exact h3 | cases this
  ·cases h
 | false=>
  simp only[Ka,Kk] at h ⊢;rw[Ld] at h;cases hc:cs[off]? with
  | none=>rw[hc] at h;cases h
  | some c=>
   rw[hc] at h;simp only[Lh,Option.some.injEq] at h;rw[ZoA] at h;have h3:ZS g (Zmf c)=Zmf c:=ZeB (by rw[h];exact ho);rw[h3] at h;subst h;exact⟨rfl,ZxB ho h3⟩
theorem ZxC {g:List Nat} {o o' : Option Zn} (h:ZcH g o o'):WU o'=WU o:=by
 cases o with
 | none=>cases o' with
  | none=>rfl
  | some o'=>cases h
 | some o=>cases o' with
  | none=>cases o<;>cases h
  | some o' =>
   have tr:∀ s n xs l,WU (some (.tree s n xs (Wt g l)))=WU (some (.tree s n xs l)):=by
    intro s n xs l;rcases l with _ | ⟨_ | nm,_⟩
    ·rfl
    ·rfl
    ·simp only[Wt];split<;>rfl
   cases o<;>cases o' <;> simp only[ZcH] at h<;>first | (cases h;done) | rfl | (obtain⟨rfl,rfl⟩:=h;rfl) | (obtain⟨rfl,rfl,rfl,rfl⟩:=h;exact tr _ _ _ _)
theorem ZcI {g:List Nat} {o o' : Option Zn} (h:ZcH g o o'):(∃ s xs e f e' f',o=some (.row s xs e f)∧o'=some (.row s xs e' f'))∨(o=none∧o'=none)∨(∃ cs,o=some (.box cs)∧o'=some (.box (cs.map (ZS g))))∨(o=some .gone∧o'=some .gone)∨(∃ s n xs l,o=some (.tree s n xs l)∧o'=some (.tree s n xs (Wt g l))):=by
 cases o with
 | none=>cases o' with
  | none=>exact .inr (.inl ⟨rfl,rfl⟩)
  | some o'=>cases h
 | some o=>cases o' with
  | none=>cases o<;>cases h
  | some o' =>
   cases o with
   | box cs=>cases o' with
    | box cs'=>simp only[ZcH] at h;subst h;exact .inr (.inr (.inl ⟨cs,rfl,rfl⟩))
    | row _ _ _ _=>cases h
    | gone=>cases h
    | tree _ _ _ _=>cases h
   | row s xs e f=>cases o' with
    | box cs'=>cases h
    | row s' xs' e' f'=>simp only[ZcH] at h;obtain⟨rfl,rfl⟩:=h;exact .inl ⟨_,_,_,_,_,_,rfl,rfl⟩
    | gone=>cases h
    | tree _ _ _ _=>cases h
   | gone=>cases o' with
    | box cs'=>cases h
    | row _ _ _ _=>cases h
    | gone=>exact .inr (.inr (.inr (.inl ⟨rfl,rfl⟩)))
    | tree _ _ _ _=>cases h
   | tree s n xs l=>cases o' with
    | box cs'=>cases h
    | row _ _ _ _=>cases h
    | gone=>cases h
    | tree s' n' xs' l'=>simp only[ZcH] at h;obtain⟨rfl,rfl,rfl,rfl⟩:=h;exact .inr (.inr (.inr (.inr ⟨_,_,_,_,rfl,rfl⟩)))
section
variable {g:List Nat} {o o' : Option Zn}
theorem ZuI (h:ZcH g o o') (sz id n:Nat):Zdv sz id n o'=Zdv sz id n o:=by
 rcases ZcI h with ⟨s,xs,e,f,e',f',rfl,rfl⟩ | ⟨rfl,rfl⟩ | ⟨cs,rfl,rfl⟩ | ⟨rfl,rfl⟩ | ⟨s,n,xs,l,rfl,rfl⟩<;>rfl
theorem ZsF (h:ZcH g o o') (sz id off m n:Nat):ZcQ sz id off m n o'=ZcQ sz id off m n o:=by
 rcases ZcI h with ⟨s,xs,e,f,e',f',rfl,rfl⟩ | ⟨rfl,rfl⟩ | ⟨cs,rfl,rfl⟩ | ⟨rfl,rfl⟩ | ⟨s,n,xs,l,rfl,rfl⟩<;>rfl
theorem ZsG (h:ZcH g o o') (s id:Nat) (lo hi:Option AV):ZcR s id lo hi o'=ZcR s id lo hi o:=by
 rcases ZcI h with ⟨s,xs,e,f,e',f',rfl,rfl⟩ | ⟨rfl,rfl⟩ | ⟨cs,rfl,rfl⟩ | ⟨rfl,rfl⟩ | ⟨s,n,xs,l,rfl,rfl⟩<;>rfl
theorem Zrf (h:ZcH g o o') (s id off n:Nat) (lo hi:Option AV):ZaA s id off n lo hi o'=ZaA s id off n lo hi o:=by
 rcases ZcI h with ⟨s,xs,e,f,e',f',rfl,rfl⟩ | ⟨rfl,rfl⟩ | ⟨cs,rfl,rfl⟩ | ⟨rfl,rfl⟩ | ⟨s,n,xs,l,rfl,rfl⟩<;>rfl
theorem ZuJ {i off:Nat} {l:Option (Option Nat×Nat×Nat)} {x:D} {v:AV} (h:JX i off l x=some v) (hk:kill g v=v):JX i off (Wt g l) x=some v:=by
 unfold JX at h ⊢;split at h
 ·unfold ZoI at h;split at h
  ·rename_i nm i' c;split at h
   ·rename_i hc;cases h;have:g.contains nm=false:=by
     cases hg:g.contains nm with
     | false=>rfl
     | true=>simp only[kill,ZS,Qd,hg,Km] at hk;cases hk
    simp only[Wt,this,Ka,Kk,ZoI,hc,and_self,Km]
   ·cases h
  ·cases h
 ·exact h
 ·cases h
theorem ZuK {i off:Nat} {l:Option (Option Nat×Nat×Nat)} {x:D} {v:AV} (h:JX i off (Wt g l) x=some v):JX i off l x=some v∧kill g v=v:=by
 unfold JX at h ⊢;split at h
 ·unfold ZoI at h;split at h
  ·rename_i nm i' c hl;split at h
   ·rename_i hc;cases h;unfold Wt at hl;split at hl
    ·rename_i ab q;split at hl
     ·cases hl
     ·rename_i hg;cases hl;simp only[LL] at hg;exact⟨by simp only[ZoI,hc,and_self,Km],by simp only[kill,ZS,Qd,hg,Ka,Kk]⟩
    ·rename_i aa;subst hl;exact absurd rfl (aa _ _)
   ·cases h
  ·cases h
 ·split at h
  ·rename_i hp;cases h;exact⟨by rw[Kj hp],rfl⟩
  ·cases h
 ·cases h
theorem Zl9 {id:Nat} (h:ZcH g o o') {a:Bool} {s sz i off:Nat} {v:AV}:(JY id a s sz i off o=some v→kill g v=v→JY id a s sz i off o'=some v)∧(JY id a s sz i off o'=some v→JY id a s sz i off o=some v∧kill g v=v):=by
 have aa:∀ {cs:List D},ZcO a s off cs=some v→∃ d,v=.d d:=by
  intro cs h;unfold ZcO at h;split at h
  ·split at h
   ·cases h;exact⟨_,rfl⟩
   ·cases h
  ·unfold asD at h;obtain⟨y,_,h⟩:=Za h;cases h;exact⟨_,rfl⟩
 rcases ZcI h with ⟨s,xs,e,f,e',f',rfl,rfl⟩ | ⟨rfl,rfl⟩ | ⟨cs,rfl,rfl⟩ | ⟨rfl,rfl⟩ | ⟨s,n,xs,l,rfl,rfl⟩
 ·refine⟨fun h _=>h,fun h=>⟨h,?_⟩⟩;simp only[JY] at h;split at h
  ·obtain⟨x,_,h⟩:=Za h;unfold Zmg at h;split at h
   ·obtain⟨d,rfl⟩:=aa h;rfl
   ·cases h
  ·cases h
 ·exact⟨fun h _=>(by cases h),fun h=>(by cases h)⟩
 ·exact⟨fun h _=>(by cases h),fun h=>(by cases h)⟩
 ·exact⟨fun h _=>(by cases h),fun h=>(by cases h)⟩
 ·simp only[JY];split
  ·split
   ·exact⟨fun h _=>(by cases h),fun h=>(by cases h)⟩
   ·constructor
    ·intro hh hk;obtain⟨x,h1,hh⟩:=Za hh;rw[h1,Zg];exact ZuJ hh hk
    ·intro hh;obtain⟨x,h1,hh⟩:=Za hh;rw[h1,Zg];exact ZuK hh
  ·exact⟨fun h _=>(by cases h),fun h=>(by cases h)⟩
end
section
variable {hp hp' : Hp} {g:List Nat}
def Zma (g:List Nat) (hp hp' : Hp) (v:AV):Prop:=∀ k∈Zw v,ZcH g (lkp hp k) (lkp hp' k)
theorem ZeC {v:AV} (h:Zma g hp hp' v):Zd6 hp' v=Zd6 hp v:=by
 cases v<;>simp only[Zd6]
 case d x=>cases x<;>rfl
 case own id=>rw[ZxC (h id (by simp[Zw,Zy,Zl]))]
theorem Zbq {v:AV} (h:Zma g hp hp' v) (sz n:Nat):QB hp' sz n v=QB hp sz n v:=by
 cases v<;>simp only[QB]
 case d x=>cases x<;>rfl
 case own id=>rw[ZuI (h id (by simp[Zw,Zy,Zl]))]
 case ownv id off n=>rw[ZsF (h id (by simp[Zw,Zy,Zl]))]
theorem ZhT {v:AV} (h:Zma g hp hp' v) (s:Nat) (lo hi:Option AV):VX hp' s lo hi v=VX hp s lo hi v:=by
 cases v<;>simp only[VX]
 case d x=>cases x<;>rfl
 case own id=>rw[ZsG (h id (by simp[Zw,Zy,Zl]))]
 case ownv id off n=>rw[Zrf (h id (by simp[Zw,Zy,Zl]))]
theorem ZzB {x v:AV} (hs:Zma g hp hp' x) {a:Bool} {s:Nat} (h:Uu hp a s x=some v) (ho:okV v=true) (hk:kill g v=v):Uu hp' a s x=some v:=by
 cases x<;>simp only[Uu] at h ⊢ <;> first | (cases h;done) | skip
 case ptr id off=>
  rcases ZcI (hs id (by simp[Zw,Zy,Zl])) with ⟨_,_,_,_,_,_,e1,e2⟩ | ⟨e1,e2⟩ | ⟨cs,e1,e2⟩ | ⟨e1,e2⟩ | ⟨_,_,_,_,e1,e2⟩
  ·rw[e1] at h;cases h
  ·rw[e1] at h;cases h
  ·rw[e1] at h;rw[e2];exact Zwi h ho hk
  ·rw[e1] at h;cases h
  ·rw[e1] at h;cases h
 case prow id sz i off=>exact(Zl9 (hs id (by simp[Zw,Zy,Zl]))).1 h hk
 case pim cs=>exact h
theorem ZBe {a:Bool} {s off:Nat} {cs:List D} {v:AV} (h:ZcO a s off cs=some v):∃ d,v=.d d:=by
 unfold ZcO at h;split at h
 ·split at h
  ·cases h;exact⟨_,rfl⟩
  ·cases h
 ·unfold asD at h;obtain⟨y,_,h⟩:=Za h;cases h;exact⟨_,rfl⟩
theorem ZzC {x v:AV} (hs:Zma g hp hp' x) {a:Bool} {s:Nat} (h:Uu hp' a s x=some v) (ho:okV v=true):Uu hp a s x=some v∧kill g v=v:=by
 cases x<;>simp only[Uu] at h ⊢ <;> first | (cases h;done) | skip
 case ptr id off=>
  rcases ZcI (hs id (by simp[Zw,Zy,Zl])) with ⟨_,_,_,_,_,_,e1,e2⟩ | ⟨e1,e2⟩ | ⟨cs,e1,e2⟩ | ⟨e1,e2⟩ | ⟨_,_,_,_,e1,e2⟩
  ·rw[e2] at h;cases h
  ·rw[e2] at h;cases h
  ·rw[e2] at h;rw[e1];exact Zwj h ho
  ·rw[e2] at h;cases h
  ·rw[e2] at h;cases h
 case prow id sz i off=>
  exact(Zl9 (hs id (by simp[Zw,Zy,Zl]))).2 h
 case pim cs=>
  obtain⟨d,rfl⟩:=ZBe h;exact⟨h,rfl⟩
theorem ZoB {x:AV} {d:D} {e:Bool} (h:Zby hp x=some (d,e,[])) (hp' : Hp):Zby hp' x=some (d,e,[]):=by
 cases x<;>simp only[Zby] at h ⊢ <;> first | exact h | skip
 case own id=>obtain⟨q,_,h⟩:=Za h;simp at h
theorem ZoC:∀ {xs:List AV} {d:List D} {e:Bool},V1 hp xs=some (d,e,[])→∀ hp' : Hp,V1 hp' xs=some (d,e,[])
 | [],d,e,h,hp'=>h
 | x :: xs,d,e,h,hp'=>by
  simp only[V1] at h ⊢;obtain⟨⟨d1,e1,l1⟩,h1,h⟩:=Za h;obtain⟨⟨d2,e2,l2⟩,h2,h⟩:=Za h;have hl:l1=[]∧l2=[]:=by
   simp only at h;split at h
   ·simp only[Option.some.injEq,Prod.mk.injEq,Kac] at h;exact h.2.2
   ·cases h
  obtain⟨rfl,rfl⟩:=hl;rw[ZoB h1 hp',Zg,ZoC h2 hp',Zg];exact h
theorem ZxD {x:AV} {d:D} {e:Bool} (h:give hp x=some (d,e,[])) (hp' : Hp):give hp' x=some (d,e,[]):=by
 cases x<;>simp only[give] at h ⊢ <;> first | exact ZoB h hp' | skip
 case agg cs=>
  obtain⟨⟨d1,e1,l1⟩,h1,h⟩:=Za h;simp only[Option.some.injEq,Prod.mk.injEq] at h;obtain⟨rfl,rfl,rfl⟩:=h;rw[ZoC h1 hp',Zg]
theorem Zj6:∀ {xs:List AV} {d:List D} {e:Bool},WV hp xs=some (d,e,[])→∀ hp' : Hp,WV hp' xs=some (d,e,[])
 | [],d,e,h,hp'=>h
 | x :: xs,d,e,h,hp'=>by
  simp only[WV] at h ⊢;obtain⟨⟨d1,e1,l1⟩,h1,h⟩:=Za h;obtain⟨⟨d2,e2,l2⟩,h2,h⟩:=Za h;have hl:l1=[]∧l2=[]:=by
   simp only at h;split at h
   ·simp only[Option.some.injEq,Prod.mk.injEq,Kac] at h;exact h.2.2
   ·cases h
  obtain⟨rfl,rfl⟩:=hl;rw[ZxD h1 hp',Zg,Zj6 h2 hp',Zg];exact h
theorem Zj7 {base s:Nat} {vs:List AV} {ce:Zf} (h:buildSl hp base s vs=some ce) (hf:ce.eff.frz=[]) (hp' : Hp) :
  buildSl hp' base s vs=some ce∧(ce.eff.val=.nil∨ce.eff.val=.own base)∧(∀ k o,(k,o)∈ce.eff.adds→∃ sz xs e f,o=.row sz xs e f):=by
 cases vs with
 | nil=>simp only[buildSl,QJ] at h ⊢;cases h;exact⟨rfl,.inl rfl,fun k o h=>by simp at h⟩
 | cons v vs=>
  simp only[buildSl] at h ⊢;obtain⟨⟨ds,e,l⟩,h1,h⟩:=Za h;unfold ZzQ at h;split at h
  ·rename_i hc;cases h;simp only at hf;subst hf;rw[Zj6 h1 hp',Zg];refine⟨?_,.inr rfl,fun k o ho=>?_⟩
   ·unfold ZzQ;rw[Kj hc]
   ·simp at ho;obtain⟨rfl,rfl⟩:=ho;exact⟨_,_,_,_,rfl⟩
  ·cases h
end
theorem Zmb {C:Orc} {M:Zm} {sl:Sl} {hp hp' : Hp} {base:Nat} {c:COp} (hc:WC c=true):vop C M sl hp base c=vop C M sl hp' base c:=by
 cases c<;>first | rfl | (simp[WC] at hc)
section
variable {C:Orc} {M:Zm} {sl sl' : Sl} {hp hp' : Hp} {base:Nat} {g:List Nat}
theorem Qa {v:AV} {ce:Zf} (h:QJ v=some ce):ce.eff.adds=[]:=by cases h;rfl
theorem QP {v:Option AV} {ce:Zf} (h:VY v=some ce):ce.eff.adds=[]:=by obtain⟨v,_,h⟩:=Za h;exact Qa h
theorem Zbc {v:Option AV} {ce:Zf} (h:VY v=some ce):v=some ce.eff.val:=by obtain⟨v,rfl,h⟩:=Za h;cases h;rfl
theorem ZyF {v:Option AV} {ce:Zf} {w:Option AV} (h:VY v=some ce) (hw:w=some ce.eff.val):VY w=some ce:=by
 obtain⟨v,rfl,h⟩:=Za h;cases h;rw[hw];rfl
theorem ZxE {c:COp} (hc:WC c=true) (hv:ZxW c=true) {ce:Zf} (h:vop C M sl hp base c=some ce):ce.eff.adds=[]:=by
 cases c<;>simp only[WC,ZxW,Ka] at hc hv<;>simp only[vop] at h
 case stuck=>cases h
 case move x=>exact Qa h
 case pick c a b=>
  unfold Zh4 at h;split at h
  ·split at h<;>exact Qa h
  ·cases h
 case build zs ps=>obtain⟨cs,_,h⟩:=Za h;exact Qa h
 case nilCheck x=>unfold ZaB at h;split at h<;>first | exact Qa h | cases h
 case bin op eq x y=>
  unfold Znu at h;split at h
  ·split at h
   ·exact QP h
   ·cases h
  ·exact QP h
 case un op x=>exact QP h
 case eqA neg n x y=>
  unfold ZuT at h;split at h
  ·obtain⟨r,_,h⟩:=Za h;exact Qa h
  ·cases h
 case convI k x=>unfold Go.Abs.convI at h;split at h<;>first | exact Qa h | cases h
 case convS x=>unfold Go.Abs.convS at h;split at h<;>first | exact Qa h | cases h
 case sliceS x lo hi=>exact QP h
 case shift off x=>unfold WB at h;split at h<;>first | exact Qa h | cases h
 case part g s off x=>exact QP h
 case iaA len s x i=>
  obtain⟨n,_,h⟩:=Za h;unfold Zrs at h;split at h
  ·unfold WB at h;split at h<;>first | exact Qa h | cases h
  ·cases h
 case ixS x i=>
  obtain⟨n,_,h⟩:=Za h;unfold ZxJ at h;split at h
  ·unfold Zwx at h;split at h
   ·obtain⟨b,_,h⟩:=Za h;exact Qa h
   ·cases h
  ·cases h
 case ixA g s len x i=>
  obtain⟨n,_,h⟩:=Za h;unfold ZzR at h;split at h
  ·exact QP h
  ·cases h
 case nth i x=>unfold Zwy at h;split at h<;>first | exact QP h | cases h
 case lenS x=>obtain⟨n,_,h⟩:=Za h;exact Qa h
 case min x y=>unfold ZoJ at h;split at h<;>first | (split at h<;>first | exact Qa h | cases h) | cases h
 case max x y=>unfold ZoK at h;split at h<;>first | (split at h<;>first | exact Qa h | cases h) | cases h
theorem ZoD {c:AV} (h:Zef c=true):ZS g c=c:=by cases c<;>first | rfl | cases h
theorem Zfy:∀ {cs:List AV},VD cs=true→∀ c∈cs,Zef c=true
 | [],_,c,hc=>by simp at hc
 | x :: l,h,c,hc=>by
  simp only[VD,Kd] at h;rcases Kf.1 hc with rfl | hc
  ·exact h.1
  ·exact Zfy h.2 c hc
theorem Znn:∀ (slc:List (Option Nat)) (cs:List AV) (b:Nat),(∀ c∈(mat slc cs b).1,c∈cs∨∃ k o,c=.own k∧(k,o)∈(mat slc cs b).2)∧∀ k o,(k,o)∈(mat slc cs b).2→∃ sz,o=.row sz [] true false
 | [],cs,b=>by simp only[mat];exact⟨fun c hc=>.inl hc,fun k o h=>by simp at h⟩
 | t :: ts,[],b=>by cases t<;>(simp only[mat];exact⟨fun c hc=>.inl hc,fun k o h=>by simp at h⟩)
 | t :: ts,v :: vs,b=>by
  by_cases hv:(∃ sz,t=some sz)∧v=.nil
  ·obtain⟨⟨sz,rfl⟩,rfl⟩:=hv;obtain⟨h1,h2⟩:=Znn ts vs (b+1);simp only[mat];refine⟨fun c hc=>?_,fun k o h=>?_⟩
   ·rcases Kf.1 hc with rfl | hc
    ·exact .inr ⟨b,_,rfl,Lp ..⟩
    ·rcases h1 c hc with h | ⟨k,o,e,h⟩
     ·exact .inl (Kv _ h)
     ·exact .inr ⟨k,o,e,Kv _ h⟩
   ·rcases Kf.1 h with h | h
    ·cases h;exact⟨_,rfl⟩
    ·exact h2 k o h
  ·obtain⟨h1,h2⟩:=Znn ts vs b;have e:mat (t :: ts) (v :: vs) b=(v :: (mat ts vs b).1,(mat ts vs b).2):=by
    cases t with
    | none=>simp[mat]
    | some sz=>cases v<;>first | (exact absurd ⟨⟨sz,rfl⟩,rfl⟩ hv) | simp[mat]
   rw[e];refine⟨fun c hc=>?_,h2⟩;rcases Kf.1 hc with rfl | hc
   ·exact .inl (Lp ..)
   ·rcases h1 c hc with h | h
    ·exact .inl (Kv _ h)
    ·exact .inr h
theorem Ztv {base:Nat}:∀ {cs:List AV},VD cs=true→cs.map (ZkQ base)=cs
 | [],_=>rfl
 | c :: cs,h=>by
  simp only[VD,Kd] at h;rw[Ko,Ztv h.2];congr 1
  cases c<;>first | rfl | (simp[Zef] at h)
theorem Ztw:∀ {cs:List AV},VD cs=true→XJ cs=true
 | [],_=>rfl
 | c :: cs,h=>by
  simp only[VD,Kd] at h;have:=Ztw h.2;cases c<;>first | exact this | (simp[Zef] at h)
theorem ZoE {slc:List (Option Nat)} {cs:List AV} {ce:Zf} (hb:∀ k,base≤k→k<base+64→k∉g) (hc:VD cs=true) (h:Zh5 slc base cs=some ce) (ad:QW base (base+64) ce.eff.adds=true) :
  (∀ id∈Zw ce.eff.val,id∉g)∧∀ k o,(k,o)∈ce.eff.adds→Xh g o=o:=by
 have hr:=U6 ad;unfold Zh5 at h;rw[Ztv hc] at h;unfold Zrp at h;rw[Kg (by rw[Ztw hc];decide)] at h;split at h
 ·cases h;simp only at hr ⊢;obtain⟨h1,h2⟩:=Znn slc cs (base+1);refine⟨fun id aa=>?_,fun k o hm=>?_⟩
  ·simp[Zw,Zy,Zl] at aa;subst aa;exact hb _ (Kl _) (by omega)
  ·rcases Kf.1 hm with hm | hm
   ·cases hm;simp only[Xh];congr 1
    rw[KR (g:=id),LJ];intro c ab;rcases h1 c ab with h | ⟨k,o,rfl,h⟩
    ·exact ZoD (Zfy hc c h)
    ·have:=hr k o (Kv _ h);have hk:=hb k this.1 this.2;simp[ZS,Qd,hk]
   ·obtain⟨sz,rfl⟩:=h2 k o hm;rfl
 ·cases h;simp only at hr ⊢;refine⟨fun id aa=>?_,fun k o hm=>?_⟩
  ·simp[Zw,Zy,Zl] at aa;subst aa;exact hb _ (Kl _) (by omega)
  ·simp at hm;obtain⟨rfl,rfl⟩:=hm;simp only[Xh];congr 1
   rw[KR (g:=id),LJ];exact fun c ab=>ZoD (Zfy hc c ab)
theorem ZzD {c:COp} (hc:ZrH c=true) (he:∀ x∈ZD c,evO sl' x=evO sl x) (hs:∀ x∈ZD c,Zma g hp hp' (evO sl x)) {ce:Zf}
  (hb:∀ k,base≤k→k<base+64→k∉g) (h:vop C M sl hp base c=some ce) (ab:QW base (base+64) ce.eff.adds=true) (ad:ce.eff.frz=[]) (ho:okV ce.eff.val=true) (hk:kill g ce.eff.val=ce.eff.val):vop C M sl' hp' base c=some ce∧∀ k o,(k,o)∈ce.eff.adds→Xh g o=o:=by
 rw[Xb C M hp' base he];have aa:ce.eff.adds=[]→∀ k o,(k,o)∈ce.eff.adds→Xh g o=o:=fun e k o hm=>by rw[e] at hm;simp at hm
 simp only[ZrH,LA,Kd] at hc;rcases hc with ((hc | hc) | ⟨hc1,hc2⟩) | hc
 ·cases c<;>simp only[J5,Ka] at hc<;>simp only[vop] at h ⊢ <;> simp only[ZD] at hs
  case load a s x=>exact⟨ZyF h (ZzB (hs x (by simp)) (Zbc h) ho hk),aa (QP h)⟩
  case slice s x lo hi=>
   rw[ZhT (hs x (by simp))];exact⟨h,aa (QP h)⟩
  case slice0 x hi mx=>
   unfold slice0 at h ⊢;rw[ZeC (hs x (by simp))];exact⟨h,aa (QP h)⟩
  case iaS s x i=>
   obtain⟨n,h1,h⟩:=Za h;rw[h1,Zg];unfold Zkb at h ⊢;rw[Zbq (hs x (by simp))];refine⟨h,aa ?_⟩;split at h
   ·exact QP h
   ·cases h
  case len x=>
   rw[ZeC (hs x (by simp))];refine⟨h,aa ?_⟩;obtain⟨n,_,h⟩:=Za h;exact Qa h
 ·cases c<;>simp only[ZtK,Ka] at hc
  simp only[vop] at h ⊢;obtain⟨h1,h2,h3⟩:=Zj7 h ad hp';refine⟨h1,fun k o hm=>?_⟩;obtain⟨sz,xs,e,f,rfl⟩:=h3 k o hm;rfl
 ·rw[← Zmb (hp:=hp) hc1];exact⟨h,aa (ZxE hc1 hc2 h)⟩
 ·cases c<;>simp only[ZpA,Ka] at hc
  simp only[vop] at h ⊢;exact⟨h,(ZoE hb hc h ab).2⟩
theorem ZxF {c:COp} (hc:Zmq c=true) (he:∀ x∈ZD c,evO sl' x=evO sl x) (hs:∀ x∈ZD c,Zma g hp hp' (evO sl x)) {ce:Zf}
  (hn:∀ x∈ZD c,∀ id∈Zw (evO sl x),id∉g) (hb:∀ k,base≤k→k<base+64→k∉g)
  (h:vop C M sl' hp' base c=some ce) (ad:QW base (base+64) ce.eff.adds=true) (ae:ce.eff.frz=[]) (ho:okV ce.eff.val=true):vop C M sl hp base c=some ce∧kill g ce.eff.val=ce.eff.val∧∀ k o,(k,o)∈ce.eff.adds→Xh g o=o:=by
 rw[Xb C M hp' base he] at h;have aa:ce.eff.adds=[]→∀ k o,(k,o)∈ce.eff.adds→Xh g o=o:=fun e k o hm=>by rw[e] at hm;simp at hm
 have names:(∀ id∈Zw ce.eff.val,id∉g)→kill g ce.eff.val=ce.eff.val:=ZyE ho;cases c<;>simp only[Zmq,Ka] at hc<;>simp only[vop] at h ⊢ <;> simp only[ZD] at hs hn
 case alloc slc cs=>
  obtain⟨h1,h2⟩:=ZoE hb hc h ad;exact⟨h,names h1,h2⟩
 case buildSl s xs=>
  obtain⟨h1,h2,h3⟩:=Zj7 h ae hp;refine⟨h1,names fun id ab=>?_,fun k o hm=>?_⟩
  ·rcases h2 with h2 | h2
   ·rw[h2] at ab;simp[Zw,Zy,Zl] at ab
   ·rw[h2] at ab;simp[Zw,Zy,Zl] at ab;subst ab;exact hb _ (Kl _) (by omega)
  ·obtain⟨sz,xs,e,f,rfl⟩:=h3 k o hm;rfl
 case load a s x=>
  obtain⟨h1,h2⟩:=ZzC (hs x (by simp)) (Zbc h) ho;exact⟨ZyF h h1,h2,aa (QP h)⟩
 case nilCheck x=>
  have hx:=hn x (by simp);refine⟨h,names ?_,aa ?_⟩
  ·unfold ZaB at h;split at h<;>rename_i hv<;>first | (cases h;done) | (cases h;show ∀ id∈Zw _,_;rw[← hv];exact hx)
  ·unfold ZaB at h;split at h<;>first | exact Qa h | cases h
 case bin op eq x y=>
  have hd:∃ d,ce.eff.val=.d d:=by
   have o2:∀ {a b:AV},VY (vbin op a b)=some ce→∃ d,ce.eff.val=.d d:=fun {a b} h=>by
    have h1:=Zbc h;unfold vbin at h1;split at h1
    ·unfold Zaw at h1;split at h1
     ·obtain⟨y,_,h1⟩:=Za h1;exact⟨_,(Option.some.inj h1).symm⟩
     ·obtain⟨y,_,h1⟩:=Za h1;exact⟨_,(Option.some.inj h1).symm⟩
     ·split at h1
      ·obtain⟨y,_,h1⟩:=Za h1;have:=Option.some.inj h1;exact⟨_,this.symm⟩
      ·cases h1
    ·obtain⟨y,_,h1⟩:=Za h1;have:=Option.some.inj h1;exact⟨_,this.symm⟩
    ·cases h1
   unfold Znu at h;split at h
   ·split at h
    ·have h1:=Zbc h;unfold Ztf at h1;split at h1
     ·exact⟨_,(Option.some.inj h1).symm⟩
     ·exact⟨_,(Option.some.inj h1).symm⟩
     ·cases h1
    ·cases h
   ·exact o2 h
  obtain⟨d,hd⟩:=hd;refine⟨h,by rw[hd];rfl,aa ?_⟩;unfold Znu at h;split at h
  ·split at h
   ·exact QP h
   ·cases h
  ·exact QP h
 case un op x=>
  have hd:∃ d,ce.eff.val=.d d:=by
   have h1:=Zbc h;unfold vun at h1;split at h1
   ·unfold neg1 at h1;split at h1
    ·exact⟨_,(Option.some.inj h1).symm⟩
    ·cases h1
   ·unfold not1 at h1;split at h1
    ·exact⟨_,(Option.some.inj h1).symm⟩
    ·cases h1
   ·cases h1
  obtain⟨d,hd⟩:=hd;exact⟨h,by rw[hd];rfl,aa (QP h)⟩
 case convI k x=>
  unfold Go.Abs.convI at h ⊢;split at h
  ·exact⟨h,by cases h;rfl,aa (Qa h)⟩
  ·cases h
 case shift off x=>
  have hx:=hn x (by simp);refine⟨h,names ?_,aa ?_⟩
  ·unfold WB at h;split at h<;>rename_i hv<;>first | (cases h;done) | skip
   ·cases h;rw[hv] at hx;simpa [Zw,Zy,Zl] using hx
   ·cases h;rw[hv] at hx;simpa [Zw,Zy,Zl] using hx
   ·cases h;simp[Zw,Zy,Zl]
  ·unfold WB at h;split at h<;>first | exact Qa h | cases h
 case slice s x lo hi=>
  have hx:=hn x (by simp);rw[ZhT (hs x (by simp))] at h;refine⟨h,names ?_,aa (QP h)⟩;have h1:=Zbc h;cases hv:evO sl x<;>rw[hv] at h1 hx<;>simp only[VX] at h1<;>first | (cases h1;done) | skip
  case d y=>
   cases y<;>simp only[VX] at h1<;>first | (cases h1;done) | skip
   split at h1
   ·obtain⟨b,_,h1⟩:=Za h1;rw[← Option.some.inj h1];simp[Zw,Zy,Zl]
   ·cases h1
  case nil=>obtain⟨b,_,h1⟩:=Za h1;rw[← Option.some.inj h1];simp[Zw,Zy,Zl]
  case own id=>
   unfold ZcR at h1;split at h1
   ·split at h1
    ·unfold Zwv at h1;split at h1
     ·rw[← Option.some.inj h1];exact hx
     ·obtain⟨b,_,h1⟩:=Za h1;rw[← Option.some.inj h1];simpa [Zw,Zy,Zl] using hx
    ·cases h1
   ·cases h1
  case ownv id off n=>
   unfold ZaA at h1;split at h1
   ·split at h1
    ·obtain⟨b,_,h1⟩:=Za h1;rw[← Option.some.inj h1];simpa [Zw,Zy,Zl] using hx
    ·cases h1
   ·cases h1
 case sliceS x lo hi=>
  have hd:∃ d,ce.eff.val=.d d:=by
   have h1:=Zbc h;unfold sliceS at h1;split at h1
   ·obtain⟨b,_,h1⟩:=Za h1;exact⟨_,(Option.some.inj h1).symm⟩
   ·cases h1
  obtain⟨d,hd⟩:=hd;exact⟨h,by rw[hd];rfl,aa (QP h)⟩
 case lenS x=>
  obtain⟨n,h1,h⟩:=Za h;refine⟨by rw[h1,Zg];exact h,by cases h;rfl,aa (Qa h)⟩
 case iaS s x i=>
  have hx:=hn x (by simp);obtain⟨n,h1,h⟩:=Za h;rw[h1,Zg];unfold Zkb at h ⊢;rw[Zbq (hs x (by simp))] at h;refine⟨h,names ?_,aa ?_⟩
  ·split at h
   ·have h1:=Zbc h;cases hv:evO sl x<;>rw[hv] at h1 hx<;>simp only[QB] at h1<;>first | (cases h1;done) | skip
    case d y=>
     cases y<;>simp only[QB] at h1<;>first | (cases h1;done) | skip
     obtain⟨b,_,h1⟩:=Za h1;unfold ZyM at h1;split at h1
     ·rw[← Option.some.inj h1];simp[Zw,Zy,Zl]
     ·cases h1
    case own id=>
     unfold Zdv at h1;split at h1
     ·split at h1
      ·rw[← Option.some.inj h1];simpa [Zw,Zy,Zl] using hx
      ·cases h1
     ·split at h1
      ·rw[← Option.some.inj h1];simpa [Zw,Zy,Zl] using hx
      ·cases h1
     ·cases h1
    case ownv id off n=>
     unfold ZcQ at h1;split at h1
     ·split at h1
      ·rw[← Option.some.inj h1];simpa [Zw,Zy,Zl] using hx
      ·cases h1
     ·cases h1
   ·cases h
  ·split at h
   ·exact QP h
   ·cases h
 case len x=>
  rw[ZeC (hs x (by simp))] at h;obtain⟨n,h1,h2⟩:=Za h;exact⟨h,by cases h2;rfl,aa (Qa h2)⟩
end
end Go.Abs
set_option linter.unusedVariables false
set_option linter.unusedSimpArgs false
namespace Go.Abs
open Go
theorem ZzE {hp:Hp} {m:Bool} {x y:AV} (h:Zdb hp m x=some y):∀ k∈Zag y,k∈Zag x:=by
 intro k hk;have aa:∀ {r:Option D},asD r=some y→False:=fun {r} h=>by
  obtain⟨d,_,h⟩:=Za h;cases h;simp[Zag] at hk
 cases x<;>simp only[Zdb] at h<;>first | (exact(aa h).elim) | skip
 case d d=>cases h;simp[Zag] at hk
 case nil=>cases m<;>simp only[Zh1] at h<;>(cases h;simp[Zag] at hk)
 case nilp=>cases h;exact hk
 case nili=>cases h;exact hk
 case ptr a b=>cases h;exact hk
 case pim c=>cases h;exact hk
 case clo f c=>cases h;exact hk
 case own id=>
  cases m<;>simp only[ZfD] at h
  ·exact(aa h).elim
  ·cases h;simp[Zag] at hk
 case agg cs=>
  cases m<;>simp only[ZfE] at h
  ·exact(aa h).elim
  ·split at h
   ·cases h
   ·cases h;simp[Zag] at hk
theorem Ztx {hp:Hp} {m:Nat→Bool}:∀ {xs ys:List AV} (i:Nat),args hp m i xs=some ys→∀ y∈ys,∀ k∈Zag y,∃ x∈xs,k∈Zag x
 | [],ys,i,h,y,hy,k,hk=>by simp only[args] at h;cases h;simp at hy
 | x :: xs,ys,i,h,y,hy,k,hk=>by
  simp only[args] at h;obtain⟨a,h1,h⟩:=Za h;obtain⟨as,h2,h⟩:=Za h;cases h;rcases Kf.1 hy with rfl | hy
  ·exact⟨x,by simp,ZzE h1 k hk⟩
  ·obtain⟨x',h3,h4⟩:=Ztx (i+1) h2 y hy k hk;exact⟨x',by simp[h3],h4⟩
theorem Zrg {x:AV}:∀ id∈Zdp x,id∈Zl x:=by
 intro id h;cases x<;>simp[Zdp] at h<;>simp[Zl,h]
theorem Zwk {x:AV}:∀ id∈Zfr x,id∈Zw x:=by
 intro id h;cases x<;>simp only[Zfr] at h<;>first | exact Zrg id h | (simp[Zdp] at h;done) | skip
 case agg cs=>
  obtain⟨c,h1,h2⟩:=Ku.1 h;exact Ku.2 ⟨c,h1,Zrg id h2⟩
theorem ZoF:∀ {xs ys:List AV},∀ i∈YN xs ys,∃ x∈xs,i∈Zw x
 | [],ys,i,h=>by cases ys<;>simp[YN] at h
 | x :: xs,[],i,h=>by simp[YN] at h
 | x :: xs,y :: ys,i,h=>by
  have aa:i∈YN xs ys→∃ x'∈x :: xs,i∈Zw x':=fun h=>by
   obtain⟨x',h1,h2⟩:=ZoF i h;exact⟨x',by simp[h1],h2⟩
  rw[Zon] at h;rcases Ke.1 h with h | h
  ·cases y<;>simp only[Zyw] at h<;>first | (simp at h;done) | exact⟨x,by simp,Zwk i h⟩
  ·exact aa h
theorem ZzF {C:Orc} {m:Nat→Bool} {hp:Hp} {base f:Nat} {ad:List AV} {ce:Zf} (h:Zdw C m hp base f ad=some ce) (hm:m 99=false) :
  ce.eff.dels=[]∧(∀ i∈ce.eff.frz,∃ a∈ad,i∈Zw a)∧(∀ i∈ce.gone,∃ o,lkp hp i=some o)∧(∀ k o,(k,o)∈ce.eff.sets→(∃ o,lkp hp k=some o)∧(k∈ce.gone∨∃ a∈ad,k∈Zag a)):=by
 unfold Zdw at h;obtain⟨as,h1,h⟩:=Za h;unfold ZfF at h;split at h
 ·rename_i hc;obtain⟨⟨r,out⟩,h2,h⟩:=Za h;unfold Zbe at h;split at h
  ·cases h
  split at h
  ·cases h
  ·cases h;obtain⟨_,_,ab⟩:=JS hp (XQ hp) (as.flatMap Zw) [] Ly;have aa : ∀ id∈QZ hp (XQ hp) (as.flatMap Zw) [],∃ o,lkp hp id=some o:=fun id af=>(ab id af).resolve_left (by simp);refine⟨rfl,fun i hi=>?_,fun i hi=>?_,fun k o hk=>?_⟩
   ·simp only at hi;split at hi
    ·simp at hi
    ·exact ZoF i hi
   ·rw[hm] at hi;exact aa i (LU.1 hi).1
   ·obtain⟨q,o0,h3,_,_⟩:=ZkE _ _ _ _ _ hk;have ae:=Kb h3;refine⟨aa k ae,?_⟩;have:=KG.1 hc.2.2 k ae;simp only[LA,KS,Kt] at this;rcases this with h4 | h4
    ·exact .inl (by rw[hm];exact LU.2 ⟨ae,h4⟩)
    ·obtain⟨y,h5,h6⟩:=Ku.1 h4;exact .inr (Ztx 0 h1 y h5 k h6)
 ·cases h
theorem ZhU:∀ {l:Hp} {hp:Hp} {k:Nat} {o:Zn},(∃ o',(k,o')∈l)→lkp (Zi hp l) k=some o→(k,o)∈l
 | [],hp,k,o,h,_=>by obtain⟨o',h⟩:=h;simp at h
 | (a,x) :: r,hp,k,o,h,hl=>by
  simp only[Zi] at hl;by_cases h1:∃ o',(k,o')∈r
  ·exact Kv _ (ZhU h1 hl)
  ·rw[ZC r _ k fun o' aa=>h1 ⟨o',aa⟩,Qu] at hl;obtain⟨o',h2⟩:=h;rcases Kf.1 h2 with h2 | h2
   ·cases h2;rw[Kj rfl] at hl;cases hl;exact Lp ..
   ·exact absurd ⟨o',h2⟩ h1
theorem ZcJ:∀ {l:Hp} {hp hp' : Hp} {k:Nat},(∃ o',(k,o')∈l)→lkp (Zi hp l) k=lkp (Zi hp' l) k
 | [],hp,hp',k,h=>by obtain⟨o',h⟩:=h;simp at h
 | (a,x) :: r,hp,hp',k,h=>by
  simp only[Zi];by_cases h1:∃ o',(k,o')∈r
  ·exact ZcJ h1
  ·rw[ZC r _ k fun o' aa=>h1 ⟨o',aa⟩,ZC r _ k fun o' aa=>h1 ⟨o',aa⟩,Qu,Qu];obtain⟨o',h2⟩:=h;rcases Kf.1 h2 with h2 | h2
   ·cases h2;simp
   ·exact absurd ⟨o',h2⟩ h1
theorem Zay:∀ (l:Hp) {hp hp' : Hp} {k:Nat},lkp hp k=lkp hp' k→lkp (Zi hp l) k=lkp (Zi hp' l) k
 | [],hp,hp',k,h=>h
 | (a,x) :: r,hp,hp',k,h=>by
  simp only[Zi];exact Zay r (by rw[Qu,Qu,h])
theorem ZyG {ce:Zf} {dX dY:Option Nat} {v:AV} {ax:Hp} {s:Sl×Hp} (hd:ZaD dX dY=true) (aa:ce.eff.dels=[])
  (h1:∀ k o,(k,o)∈ax→(∀ o',(k,o')∉ce.eff.sets)∧(∀ o',(k,o')∉ce.eff.adds)∧k∉ce.eff.frz) (h2:∀ k o,(k,o)∈ax→Xh ce.gone o=o) (hv:kill ce.gone v=v) :
  XK (Zr (ce.on dY s.1 s.2).1 dX v,Zi (ce.on dY s.1 s.2).2 ax) (ce.on dY (Zr s.1 dX v) (Zi s.2 ax)):=by
 refine⟨fun t=>?_,fun k=>?_⟩
 ·show gs (Zr (Zr (Xa ce.gone s.1) dY ce.eff.val) dX v) t=gs (Zr (Xa ce.gone (Zr s.1 dX v)) dY ce.eff.val) t;simp only[Qx,QO];by_cases hx:dX=some t
  ·have hy:¬dY=some t:=fun e=>by rw[hx,e] at hd;simp[ZaD] at hd
   simp[hx,hy,hv]
  ·simp[hx]
 ·show lkp (Zi (ce.eff.on (V7 ce.gone s.2)) ax) k=lkp (ce.eff.on (V7 ce.gone (Zi s.2 ax))) k;unfold Eff.on;rw[aa];simp only[Qf];by_cases hk:∃ o,(k,o)∈ax
  ·obtain⟨o,ho⟩:=hk;obtain⟨g1,g2,g3⟩:=h1 k o ho;rw[ZC _ (Zi (Qk ce.eff.frz (V7 ce.gone (Zi s.2 ax))) ce.eff.sets) k g2,ZC _ (Qk ce.eff.frz (V7 ce.gone (Zi s.2 ax))) k g1];rw[Qe,Wu];rw[ZcJ (hp':=s.2) ⟨o,ho⟩];cases hl:lkp (Zi s.2 ax) k with
   | none=>rfl
   | some o' =>
    have:=h2 k o' (ZhU ⟨o,ho⟩ hl);simp[this,g3]
  ·have ab : ∀ o,(k,o)∉ax:=fun o ho=>hk ⟨o,ho⟩;rw[ZC ax _ k ab];refine Zay _ (Zay _ ?_);rw[Qe,Qe,Wu,Wu,ZC ax _ k ab]
structure Zno (ce:Zf):Prop where
 gone:ce.gone=[]
 sets:ce.eff.sets=[]
 dels:ce.eff.dels=[]
 frz:ce.eff.frz=[]
theorem Zwl {ce:Zf} (h:Zno ce) (d:Option Nat) (s:Sl×Hp):ce.on d s.1 s.2=(Zr s.1 d ce.eff.val,Zi s.2 ce.eff.adds):=by
 unfold Zf.on Eff.on;rw[h.gone,h.sets,h.dels,h.frz];rfl
theorem ZxG {C:Orc} {M:Zm} {nx i:Nat} {o:CO} {s s' : Sl×Hp} (h:ZM C M nx i false o s=some s') :
  (ZY s.1 o.guard=some false∧s'=(Zr s.1 o.dst (.tup []),s.2)) ∨
  (ZY s.1 o.guard=some true∧∃ ce,Zno ce∧vop C M s.1 s.2 (nx+64*i) o.op=some ce∧QW (nx+64*i) (nx+64*i+64) ce.eff.adds=true∧s'=(Zr s.1 o.dst ce.eff.val,Zi s.2 ce.eff.adds)):=by
 unfold ZM at h;obtain⟨b,hw,h⟩:=Za h;cases b with
 | true=>
  simp only[Km] at h;obtain⟨ce,h1,h2,rfl⟩:=Xo h;unfold V9 at h1;simp only[Ka,Kk] at h1;unfold Zc4 at h1;obtain⟨c,h3,h1⟩:=Za h1;unfold ZfQ at h1;split at h1
  ·rename_i e1 e2 e3 e4;cases h1;have hq:Zno ce:=⟨e1,e2,e3,e4⟩
   exact .inr ⟨hw,ce,hq,h3,h2,Zwl hq _ s⟩
  ·cases h1
 | false=>
  simp only[Ka,Kk] at h;cases h;exact .inl ⟨hw,rfl⟩
theorem ZiF {C:Orc} {M:Zm} {nx i:Nat} {o:CO} {s:Sl×Hp} {ce:Zf} (hw:ZY s.1 o.guard=some true) (hq:Zno ce) (hv:vop C M s.1 s.2 (nx+64*i) o.op=some ce) (hk:QW (nx+64*i) (nx+64*i+64) ce.eff.adds=true) :
  ZM C M nx i false o s=some (Zr s.1 o.dst ce.eff.val,Zi s.2 ce.eff.adds):=by
 unfold ZM;rw[hw,Zg];simp only[Km];unfold YD V9;simp only[Ka,Kk];rw[hv];simp only[Zc4,Zg,hq.gone,hq.sets,hq.dels,hq.frz,ZfQ];rw[Kj hk,Zwl hq _ s]
theorem YA {C:Orc} {M:Zm} {nx i:Nat} {t:Bool} {o:CO} {s:Sl×Hp} (hw:ZY s.1 o.guard=some false):ZM C M nx i t o s=some (Zr s.1 o.dst (.tup []),s.2):=by
 unfold ZM;rw[hw,Zg];rfl
theorem ZiG {sl sl' : Sl} {g:List Nat} {gd:Option (Nat×Bool)} (h:∀ q,gd=some q→gs sl' q.1=kill g (gs sl q.1)):ZY sl' gd=ZY sl gd:=by
 cases gd with
 | none=>rfl
 | some q=>
  simp only[ZY,h q rfl];cases gs sl q.1 with
  | d x=>rfl
  | tup vs=>cases vs<;>rfl
  | ptr a b=>simp only[kill,ZS,Qd];split<;>rfl
  | prow a b c d=>simp only[kill,ZS,Qd];split<;>rfl
  | own a=>simp only[kill,ZS,Qd];split<;>rfl
  | ownv a b c=>simp only[kill,ZS,Qd];split<;>rfl
  | bnil a b=>simp only[kill,ZS,Qd];split<;>rfl
  | _=>rfl
end Go.Abs
