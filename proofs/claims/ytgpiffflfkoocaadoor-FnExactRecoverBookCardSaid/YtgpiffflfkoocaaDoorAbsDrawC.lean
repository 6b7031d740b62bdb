/- Own text. -/
import Derived.Test.YtgpiffflfkoocaaDoorAbsDraw3
import Derived.Test.YtgpiffflfkoocaaDoorAbsSound5
set_option linter.unusedVariables false
set_option linter.unusedSimpArgs false
namespace Go.Abs
open Go
theorem Zpb {v:AV} (h:okC v=true):okV v=true:=by
 cases v<;>first | exact h | cases h
theorem Zfq {g:List Nat} {v:AV} (h:okC (ZU g v)=true):ZU g v=v:=by
 cases v<;>simp only[ZU] at h ⊢ <;> first | rfl | (split at h<;>rename_i h' <;> first | (cases h;done) | rw[Kf h'])
theorem ZdB {g:List Nat}:∀ {cs:List AV},ZlP (cs.map (ZU g))=true→cs.map (ZU g)=cs
 | [],_=>rfl
 | c :: cs,h=>by
  simp only[Ki,ZlP,Kc] at h ⊢;rw[Zfq h.1,ZdB h.2]
theorem Zal {g:List Nat} {v:AV} (h:okV (ZF g v)=true):ZF g v=v:=by
 cases v with
 | agg cs=>simp only[ZF,okV] at h ⊢;rw[ZdB h]
 | clo f cs=>simp only[ZF,okV,okC] at h;cases h
 | tup vs=>rfl
 | _=>
  simp only[ZF] at h ⊢;refine Zfq ?_;revert h;simp only[ZU]
  first | exact id | (split<;>first | exact id | (intro h;cases h))
theorem U3 {g:List Nat} {v:AV} (h:okV (kill g v)=true):kill g v=v:=by
 cases v with
 | tup vs=>
  cases vs with
  | nil=>rfl
  | cons x r=>simp only[kill,Ki,okV,okC] at h;cases h
 | _=>simp only[kill] at h ⊢;exact Zal h
theorem ZmP {g:List Nat} {v:AV} (hn:∀ id∈Zg v,id∉g):ZU g v=v:=by
 cases v<;>simp only[ZU]<;>first | rfl | (rw[Kf];simpa [Zg] using hn)
theorem Zpc {g:List Nat} {v:AV} (h:okV v=true) (hn:∀ id∈Zl v,id∉g):kill g v=v:=by
 cases v with
 | tup vs=>
  cases vs with
  | nil=>rfl
  | cons x r=>simp only[okV,okC] at h;cases h
 | clo f cs=>simp only[okV,okC] at h;cases h
 | agg cs=>
  simp only[kill,ZF];congr 1
  rw[KJ (g:=id),Lu];intro c hc;exact ZmP fun id aa=>hn id (by simp only[Zl,Zo,Kq];exact⟨c,hc,aa⟩)
 | _=>simp only[kill,ZF];exact ZmP hn
theorem ZrO {g:List Nat} {v:AV} (h:kill g v=v):∀ id∈Zl v,id∉g:=fun id aa=>(Zj0 g v id (by rw[h];exact aa)).2
theorem Zqf {g:List Nat} {c:AV} (h:okC c=true) (h1:ZU g c=c):ZF g c=c:=by
 cases c<;>simp only[ZF]<;>first | exact h1 | cases h
def U4 (g:List Nat):Option Zf→Option Zf→Prop
 | none,none=>True
 | some (.row s xs _ _),some (.row s' xs' _ _)=>s'=s∧xs'=xs
 | some (.box cs),some (.box cs')=>cs'=cs.map (ZF g)
 | some (.tree s n xs l),some (.tree s' n' xs' l')=>s'=s∧n'=n∧xs'=xs∧l'=YV g l
 | some .gone,some .gone=>True
 | _,_=>False
theorem ZmQ {g:List Nat} {b:Bool} (o:Option Zf):U4 g o ((o.map (QU g)).map fun o=>if b then Yh o else o):=by
 cases o with
 | none=>trivial
 | some o=>cases o<;>cases b<;>exact(by first | exact⟨rfl,rfl⟩ | exact rfl | exact⟨rfl,rfl,rfl,rfl⟩ | exact trivial)
theorem Zkb {g:List Nat}:∀ {l:List AV} {ds:List D},ZaI l=some ds→l.map (ZF g)=l
 | [],ds,_=>rfl
 | v :: l,ds,h=>by
  simp only[ZaI] at h;obtain⟨x,h1,h⟩:=Za h;obtain⟨aa,h2,h⟩:=Za h;have:ZF g v=v:=by cases v<;>first | rfl | cases h1
  rw[Ki,this,Zkb h2]
theorem Zig {g:List Nat}:∀ {l:List AV} {ds:List D},ZaI (l.map (ZF g))=some ds→l.map (ZF g)=l
 | [],ds,_=>rfl
 | v :: l,ds,h=>by
  simp only[Ki,ZaI] at h;obtain⟨x,h1,h⟩:=Za h;obtain⟨aa,h2,h⟩:=Za h;have hv:ZF g v=v:=by
   refine Zal ?_;cases hk:ZF g v<;>rw[hk] at h1<;>first | rfl | cases h1
  rw[Ki,hv,Zig h2]
theorem ZbN (l:List AV):(∃ ds,ZaI l=some ds∧We l=.d (.agg ds))∨(ZaI l=none∧(We l=.junk∨We l=.agg l)):=by
 unfold We;cases h:ZaI l with
 | some ds=>exact .inl ⟨ds,rfl,rfl⟩
 | none=>
  refine .inr ⟨rfl,?_⟩;unfold VF;split
  ·rename_i h;cases h
  ·split
   ·exact .inl rfl
   ·exact .inr rfl
theorem Zej:∀ {l:List AV},ZlP l=true→∀ c∈l,okC c=true
 | [],_,c,hc=>by simp at hc
 | x :: l,h,c,hc=>by
  simp only[ZlP,Kc] at h;rcases Ke.1 hc with rfl | hc
  ·exact h.1
  ·exact Zej h.2 c hc
theorem Zqg {g:List Nat} {l:List AV} (h:okV (We l)=true) (hk:kill g (We l)=We l):l.map (ZF g)=l:=by
 rcases ZbN l with ⟨ds,h1,h2⟩ | ⟨h1,h2 | h2⟩
 ·exact Zkb h1
 ·rw[h2] at h;cases h
 ·rw[h2] at h hk;simp only[kill,ZF,AV.agg.injEq] at hk;simp only[okV] at h;have hm:=Zej h;have aa : ∀ c∈l,ZU g c=c:=by
   intro c hc;have:=ZdB (g:=g) (cs:=l) (by rw[hk];exact h);exact Zfq (by
    have h3:ZU g c∈l.map (ZU g):=List.mem_map_of_mem hc;rw[hk] at h3;exact hm _ h3)
  rw[KJ (g:=id),Lu];intro c hc;exact Zqf (hm c hc) (aa c hc)
theorem Zqh {g:List Nat} {l:List AV} (h:okV (We (l.map (ZF g)))=true):l.map (ZF g)=l:=by
 rcases ZbN (l.map (ZF g)) with ⟨ds,h1,h2⟩ | ⟨h1,h2 | h2⟩
 ·exact Zig h1
 ·rw[h2] at h;cases h
 ·rw[h2] at h;simp only[okV] at h;have hm:=Zej h;rw[KJ (g:=id),Lu];intro c hc;exact Zal (Zpb (hm _ (List.mem_map_of_mem hc)))
theorem Zn6 {g:List Nat} {v:AV} (h:okV v=true) (hk:kill g v=v):ZF g v=v:=by
 cases v with
 | tup vs=>rfl
 | _=>simp only[kill] at hk;exact hk
theorem Zn7 {g:List Nat} {v:AV} (h:okV v=true) (hk:ZF g v=v):kill g v=v:=by
 cases v with
 | tup vs=>
  cases vs with
  | nil=>rfl
  | cons x r=>simp only[okV,okC] at h;cases h
 | _=>simp only[kill];exact hk
theorem Zc1 {α β:Type} (f:α→β) (l:List α) (a b:Nat):((l.map f).drop a).take b=((l.drop a).take b).map f:=by
 rw[← List.map_drop,← List.map_take]
theorem Zgg (g:List Nat) (c:AV):Zep (ZF g c)=ZF g (Zep c):=by
 have aa:∀ v:AV,(∀ a b,v≠.bbuf a b)→Zep v=v:=fun v h'=>by cases v<;>first | rfl | exact absurd rfl (h' _ _)
 by_cases h' : ∃ a b,c=.bbuf a b
 ·obtain⟨a,b,rfl⟩:=h';rfl
 ·have h2:∀ a b,c≠.bbuf a b:=fun a b e=>h' ⟨a,b,e⟩;rw[aa c h2,aa];exact fun a b e=>h2 a b ((VU g c a b).1 e)
theorem ZmR {g:List Nat} {cs:List AV} {a:Bool} {s off:Nat} {v:AV} (h:WT a s off (some (.box cs))=some v) (ho:okV v=true) (hk:kill g v=v):WT a s off (some (.box (cs.map (ZF g))))=some v:=by
 unfold WT at h ⊢;cases a with
 | true=>
  simp only[Kl] at h ⊢;split at h
  ·rename_i hl;cases h;rw[Ko (by simpa using hl),Zc1,Zqg ho hk]
  ·cases h
 | false=>
  simp only[Ka,Kn] at h ⊢;obtain⟨c,hc,rfl⟩:=Option.map_eq_some_iff.1 h;rw[Lg,hc];simp only[KP];rw[Zgg,Zn6 ho hk]
theorem ZmS {g:List Nat} {cs:List AV} {a:Bool} {s off:Nat} {v:AV} (h:WT a s off (some (.box (cs.map (ZF g))))=some v) (ho:okV v=true):WT a s off (some (.box cs))=some v∧kill g v=v:=by
 unfold WT at h ⊢;cases a with
 | true=>
  simp only[Kl] at h ⊢;split at h
  ·rename_i hl;cases h;rw[Zc1] at ho ⊢;have he:=Zqh ho;rw[he] at ho ⊢;refine⟨by rw[Ko (by simpa using hl)],?_⟩;rcases ZbN ((cs.drop off).take s) with ⟨ds,h1,h2⟩ | ⟨h1,h2 | h2⟩
   ·rw[h2];rfl
   ·rw[h2] at ho;cases ho
   ·rw[h2] at ho ⊢;simp only[okV] at ho;have hm:=Zej ho;simp only[kill,ZF,AV.agg.injEq];rw[KJ (g:=id),Lu];intro c hc;have h3:ZF g c=c:=by
     refine Zal ?_;have h4:ZF g c∈((cs.drop off).take s).map (ZF g):=List.mem_map_of_mem hc;rw[he] at h4;exact Zpb (hm _ h4)
    have:=hm c hc;cases c<;>first | exact h3 | cases this
  ·cases h
 | false=>
  simp only[Ka,Kn] at h ⊢;rw[Lg] at h;cases hc:cs[off]? with
  | none=>rw[hc] at h;cases h
  | some c=>
   rw[hc] at h;simp only[KP,Option.some.injEq] at h;rw[Zgg] at h;have h3:ZF g (Zep c)=Zep c:=Zal (by rw[h];exact ho);rw[h3] at h;subst h;exact⟨rfl,Zn7 ho h3⟩
theorem Zn8 {g:List Nat} {o o' : Option Zf} (h:U4 g o o'):Vd o'=Vd o:=by
 cases o with
 | none=>cases o' with
  | none=>rfl
  | some o'=>cases h
 | some o=>cases o' with
  | none=>cases o<;>cases h
  | some o' =>
   have tr:∀ s n xs l,Vd (some (.tree s n xs (YV g l)))=Vd (some (.tree s n xs l)):=by
    intro s n xs l;rcases l with _ | ⟨_ | nm,_⟩
    ·rfl
    ·rfl
    ·simp only[YV];split<;>rfl
   cases o<;>cases o' <;> simp only[U4] at h<;>first | (cases h;done) | rfl | (obtain⟨rfl,rfl⟩:=h;rfl) | (obtain⟨rfl,rfl,rfl,rfl⟩:=h;exact tr _ _ _ _)
theorem U5 {g:List Nat} {o o' : Option Zf} (h:U4 g o o'):(∃ s xs e f e' f',o=some (.row s xs e f)∧o'=some (.row s xs e' f'))∨(o=none∧o'=none)∨(∃ cs,o=some (.box cs)∧o'=some (.box (cs.map (ZF g))))∨(o=some .gone∧o'=some .gone)∨(∃ s n xs l,o=some (.tree s n xs l)∧o'=some (.tree s n xs (YV g l))):=by
 cases o with
 | none=>cases o' with
  | none=>exact .inr (.inl ⟨rfl,rfl⟩)
  | some o'=>cases h
 | some o=>cases o' with
  | none=>cases o<;>cases h
  | some o' =>
   cases o with
   | box cs=>cases o' with
    | box cs'=>simp only[U4] at h;subst h;exact .inr (.inr (.inl ⟨cs,rfl,rfl⟩))
    | row _ _ _ _=>cases h
    | gone=>cases h
    | tree _ _ _ _=>cases h
   | row s xs e f=>cases o' with
    | box cs'=>cases h
    | row s' xs' e' f'=>simp only[U4] at h;obtain⟨rfl,rfl⟩:=h;exact .inl ⟨_,_,_,_,_,_,rfl,rfl⟩
    | gone=>cases h
    | tree _ _ _ _=>cases h
   | gone=>cases o' with
    | box cs'=>cases h
    | row _ _ _ _=>cases h
    | gone=>exact .inr (.inr (.inr (.inl ⟨rfl,rfl⟩)))
    | tree _ _ _ _=>cases h
   | tree s n xs l=>cases o' with
    | box cs'=>cases h
    | row _ _ _ _=>cases h
    | gone=>cases h
    | tree s' n' xs' l'=>simp only[U4] at h;obtain⟨rfl,rfl,rfl,rfl⟩:=h;exact .inr (.inr (.inr (.inr ⟨_,_,_,_,rfl,rfl⟩)))
section
variable {g:List Nat} {o o' : Option Zf}
theorem Zlr (h:U4 g o o') (sz id n:Nat):JC sz id n o'=JC sz id n o:=by
 rcases U5 h with ⟨s,xs,e,f,e',f',rfl,rfl⟩ | ⟨rfl,rfl⟩ | ⟨cs,rfl,rfl⟩ | ⟨rfl,rfl⟩ | ⟨s,n,xs,l,rfl,rfl⟩<;>rfl
theorem ZjB (h:U4 g o o') (sz id off m n:Nat):Jb sz id off m n o'=Jb sz id off m n o:=by
 rcases U5 h with ⟨s,xs,e,f,e',f',rfl,rfl⟩ | ⟨rfl,rfl⟩ | ⟨cs,rfl,rfl⟩ | ⟨rfl,rfl⟩ | ⟨s,n,xs,l,rfl,rfl⟩<;>rfl
theorem ZjC (h:U4 g o o') (s id:Nat) (lo hi:Option AV):Jc s id lo hi o'=Jc s id lo hi o:=by
 rcases U5 h with ⟨s,xs,e,f,e',f',rfl,rfl⟩ | ⟨rfl,rfl⟩ | ⟨cs,rfl,rfl⟩ | ⟨rfl,rfl⟩ | ⟨s,n,xs,l,rfl,rfl⟩<;>rfl
theorem Zih (h:U4 g o o') (s id off n:Nat) (lo hi:Option AV):WH s id off n lo hi o'=WH s id off n lo hi o:=by
 rcases U5 h with ⟨s,xs,e,f,e',f',rfl,rfl⟩ | ⟨rfl,rfl⟩ | ⟨cs,rfl,rfl⟩ | ⟨rfl,rfl⟩ | ⟨s,n,xs,l,rfl,rfl⟩<;>rfl
theorem Zls {i off:Nat} {l:Option (Option Nat×Nat×Nat)} {x:D} {v:AV} (h:Wj i off l x=some v) (hk:kill g v=v):Wj i off (YV g l) x=some v:=by
 unfold Wj at h ⊢;split at h
 ·unfold Zgo at h;split at h
  ·rename_i nm i' c;split at h
   ·rename_i hc;cases h;have:g.contains nm=false:=by
     cases hg:g.contains nm with
     | false=>rfl
     | true=>simp only[kill,ZF,ZU,hg,Kl] at hk;cases hk
    simp only[YV,this,Ka,Kn,Zgo,hc,and_self,Kl]
   ·cases h
  ·cases h
 ·exact h
 ·cases h
theorem Zlt {i off:Nat} {l:Option (Option Nat×Nat×Nat)} {x:D} {v:AV} (h:Wj i off (YV g l) x=some v):Wj i off l x=some v∧kill g v=v:=by
 unfold Wj at h ⊢;split at h
 ·unfold Zgo at h;split at h
  ·rename_i nm i' c hl;split at h
   ·rename_i hc;cases h;unfold YV at hl;split at hl
    ·rename_i ab q;split at hl
     ·cases hl
     ·rename_i hg;cases hl;simp only[Bool.not_eq_true] at hg;exact⟨by simp only[Zgo,hc,and_self,Kl],by simp only[kill,ZF,ZU,hg,Ka,Kn]⟩
    ·rename_i aa;subst hl;exact absurd rfl (aa _ _)
   ·cases h
  ·cases h
 ·split at h
  ·rename_i hp;cases h;exact⟨by rw[Ko hp],rfl⟩
  ·cases h
 ·cases h
theorem Zek {id:Nat} (h:U4 g o o') {a:Bool} {s sz i off:Nat} {v:AV}:(Wk id a s sz i off o=some v→kill g v=v→Wk id a s sz i off o'=some v)∧(Wk id a s sz i off o'=some v→Wk id a s sz i off o=some v∧kill g v=v):=by
 have aa:∀ {cs:List D},U9 a s off cs=some v→∃ d,v=.d d:=by
  intro cs h;unfold U9 at h;split at h
  ·split at h
   ·cases h;exact⟨_,rfl⟩
   ·cases h
  ·unfold asD at h;obtain⟨y,_,h⟩:=Za h;cases h;exact⟨_,rfl⟩
 rcases U5 h with ⟨s,xs,e,f,e',f',rfl,rfl⟩ | ⟨rfl,rfl⟩ | ⟨cs,rfl,rfl⟩ | ⟨rfl,rfl⟩ | ⟨s,n,xs,l,rfl,rfl⟩
 ·refine⟨fun h _=>h,fun h=>⟨h,?_⟩⟩;simp only[Wk] at h;split at h
  ·obtain⟨x,_,h⟩:=Za h;unfold Zeq at h;split at h
   ·obtain⟨d,rfl⟩:=aa h;rfl
   ·cases h
  ·cases h
 ·exact⟨fun h _=>(by cases h),fun h=>(by cases h)⟩
 ·exact⟨fun h _=>(by cases h),fun h=>(by cases h)⟩
 ·exact⟨fun h _=>(by cases h),fun h=>(by cases h)⟩
 ·simp only[Wk];split
  ·split
   ·exact⟨fun h _=>(by cases h),fun h=>(by cases h)⟩
   ·constructor
    ·intro hh hk;obtain⟨x,h1,hh⟩:=Za hh;rw[h1,Zc];exact Zls hh hk
    ·intro hh;obtain⟨x,h1,hh⟩:=Za hh;rw[h1,Zc];exact Zlt hh
  ·exact⟨fun h _=>(by cases h),fun h=>(by cases h)⟩
end
section
variable {hp hp' : Hp} {g:List Nat}
def Zel (g:List Nat) (hp hp' : Hp) (v:AV):Prop:=∀ k∈Zl v,U4 g (lkp hp k) (lkp hp' k)
theorem Zam {v:AV} (h:Zel g hp hp' v):JQ hp' v=JQ hp v:=by
 cases v<;>simp only[JQ]
 case d x=>cases x<;>rfl
 case own id=>rw[Zn8 (h id (by simp[Zl,Zo,Zg]))]
theorem Ug {v:AV} (h:Zel g hp hp' v) (sz n:Nat):Qh hp' sz n v=Qh hp sz n v:=by
 cases v<;>simp only[Qh]
 case d x=>cases x<;>rfl
 case own id=>rw[Zlr (h id (by simp[Zl,Zo,Zg]))]
 case ownv id off n=>rw[ZjB (h id (by simp[Zl,Zo,Zg]))]
theorem ZbO {v:AV} (h:Zel g hp hp' v) (s:Nat) (lo hi:Option AV):Yz hp' s lo hi v=Yz hp s lo hi v:=by
 cases v<;>simp only[Yz]
 case d x=>cases x<;>rfl
 case own id=>rw[ZjC (h id (by simp[Zl,Zo,Zg]))]
 case ownv id off n=>rw[Zih (h id (by simp[Zl,Zo,Zg]))]
theorem Zqi {x v:AV} (hs:Zel g hp hp' x) {a:Bool} {s:Nat} (h:VA hp a s x=some v) (ho:okV v=true) (hk:kill g v=v):VA hp' a s x=some v:=by
 cases x<;>simp only[VA] at h ⊢ <;> first | (cases h;done) | skip
 case ptr id off=>
  rcases U5 (hs id (by simp[Zl,Zo,Zg])) with ⟨_,_,_,_,_,_,e1,e2⟩ | ⟨e1,e2⟩ | ⟨cs,e1,e2⟩ | ⟨e1,e2⟩ | ⟨_,_,_,_,e1,e2⟩
  ·rw[e1] at h;cases h
  ·rw[e1] at h;cases h
  ·rw[e1] at h;rw[e2];exact ZmR h ho hk
  ·rw[e1] at h;cases h
  ·rw[e1] at h;cases h
 case prow id sz i off=>exact(Zek (hs id (by simp[Zl,Zo,Zg]))).1 h hk
 case pim cs=>exact h
theorem ZrP {a:Bool} {s off:Nat} {cs:List D} {v:AV} (h:U9 a s off cs=some v):∃ d,v=.d d:=by
 unfold U9 at h;split at h
 ·split at h
  ·cases h;exact⟨_,rfl⟩
  ·cases h
 ·unfold asD at h;obtain⟨y,_,h⟩:=Za h;cases h;exact⟨_,rfl⟩
theorem Zqj {x v:AV} (hs:Zel g hp hp' x) {a:Bool} {s:Nat} (h:VA hp' a s x=some v) (ho:okV v=true):VA hp a s x=some v∧kill g v=v:=by
 cases x<;>simp only[VA] at h ⊢ <;> first | (cases h;done) | skip
 case ptr id off=>
  rcases U5 (hs id (by simp[Zl,Zo,Zg])) with ⟨_,_,_,_,_,_,e1,e2⟩ | ⟨e1,e2⟩ | ⟨cs,e1,e2⟩ | ⟨e1,e2⟩ | ⟨_,_,_,_,e1,e2⟩
  ·rw[e2] at h;cases h
  ·rw[e2] at h;cases h
  ·rw[e2] at h;rw[e1];exact ZmS h ho
  ·rw[e2] at h;cases h
  ·rw[e2] at h;cases h
 case prow id sz i off=>
  exact(Zek (hs id (by simp[Zl,Zo,Zg]))).2 h
 case pim cs=>
  obtain⟨d,rfl⟩:=ZrP h;exact⟨h,rfl⟩
theorem Zgh {x:AV} {d:D} {e:Bool} (h:Um hp x=some (d,e,[])) (hp' : Hp):Um hp' x=some (d,e,[]):=by
 cases x<;>simp only[Um] at h ⊢ <;> first | exact h | skip
 case own id=>obtain⟨q,_,h⟩:=Za h;simp at h
theorem Zgi:∀ {xs:List AV} {d:List D} {e:Bool},YE hp xs=some (d,e,[])→∀ hp' : Hp,YE hp' xs=some (d,e,[])
 | [],d,e,h,hp'=>h
 | x :: xs,d,e,h,hp'=>by
  simp only[YE] at h ⊢;obtain⟨⟨d1,e1,l1⟩,h1,h⟩:=Za h;obtain⟨⟨d2,e2,l2⟩,h2,h⟩:=Za h;have hl:l1=[]∧l2=[]:=by
   simp only at h;split at h
   ·simp only[Option.some.injEq,Prod.mk.injEq,List.append_eq_nil_iff] at h;exact h.2.2
   ·cases h
  obtain⟨rfl,rfl⟩:=hl;rw[Zgh h1 hp',Zc,Zgi h2 hp',Zc];exact h
theorem Zn9 {x:AV} {d:D} {e:Bool} (h:give hp x=some (d,e,[])) (hp' : Hp):give hp' x=some (d,e,[]):=by
 cases x<;>simp only[give] at h ⊢ <;> first | exact Zgh h hp' | skip
 case agg cs=>
  obtain⟨⟨d1,e1,l1⟩,h1,h⟩:=Za h;simp only[Option.some.injEq,Prod.mk.injEq] at h;obtain⟨rfl,rfl,rfl⟩:=h;rw[Zgi h1 hp',Zc]
theorem Zc2:∀ {xs:List AV} {d:List D} {e:Bool},Ve hp xs=some (d,e,[])→∀ hp' : Hp,Ve hp' xs=some (d,e,[])
 | [],d,e,h,hp'=>h
 | x :: xs,d,e,h,hp'=>by
  simp only[Ve] at h ⊢;obtain⟨⟨d1,e1,l1⟩,h1,h⟩:=Za h;obtain⟨⟨d2,e2,l2⟩,h2,h⟩:=Za h;have hl:l1=[]∧l2=[]:=by
   simp only at h;split at h
   ·simp only[Option.some.injEq,Prod.mk.injEq,List.append_eq_nil_iff] at h;exact h.2.2
   ·cases h
  obtain⟨rfl,rfl⟩:=hl;rw[Zn9 h1 hp',Zc,Zc2 h2 hp',Zc];exact h
theorem Zc3 {base s:Nat} {vs:List AV} {ce:Zb} (h:buildSl hp base s vs=some ce) (hf:ce.eff.frz=[]) (hp' : Hp) :
  buildSl hp' base s vs=some ce∧(ce.eff.val=.nil∨ce.eff.val=.own base)∧(∀ k o,(k,o)∈ce.eff.adds→∃ sz xs e f,o=.row sz xs e f):=by
 cases vs with
 | nil=>simp only[buildSl,Qw] at h ⊢;cases h;exact⟨rfl,.inl rfl,fun k o h=>by simp at h⟩
 | cons v vs=>
  simp only[buildSl] at h ⊢;obtain⟨⟨ds,e,l⟩,h1,h⟩:=Za h;unfold Zqx at h;split at h
  ·rename_i hc;cases h;simp only at hf;subst hf;rw[Zc2 h1 hp',Zc];refine⟨?_,.inr rfl,fun k o ho=>?_⟩
   ·unfold Zqx;rw[Ko hc]
   ·simp at ho;obtain⟨rfl,rfl⟩:=ho;exact⟨_,_,_,_,rfl⟩
  ·cases h
end
theorem Zem {C:Orc} {M:Zh} {sl:Sl} {hp hp' : Hp} {base:Nat} {c:COp} (hc:Y4 c=true):vop C M sl hp base c=vop C M sl hp' base c:=by
 cases c<;>first | rfl | (simp[Y4] at hc)
section
variable {C:Orc} {M:Zh} {sl sl' : Sl} {hp hp' : Hp} {base:Nat} {g:List Nat}
theorem ZT {v:AV} {ce:Zb} (h:Qw v=some ce):ce.eff.adds=[]:=by cases h;rfl
theorem Qu {v:Option AV} {ce:Zb} (h:YA v=some ce):ce.eff.adds=[]:=by obtain⟨v,_,h⟩:=Za h;exact ZT h
theorem W1 {v:Option AV} {ce:Zb} (h:YA v=some ce):v=some ce.eff.val:=by obtain⟨v,rfl,h⟩:=Za h;cases h;rfl
theorem Zpd {v:Option AV} {ce:Zb} {w:Option AV} (h:YA v=some ce) (hw:w=some ce.eff.val):YA w=some ce:=by
 obtain⟨v,rfl,h⟩:=Za h;cases h;rw[hw];rfl
theorem Zoa {c:COp} (hc:Y4 c=true) (hv:Zos c=true) {ce:Zb} (h:vop C M sl hp base c=some ce):ce.eff.adds=[]:=by
 cases c<;>simp only[Y4,Zos,Ka] at hc hv<;>simp only[vop] at h
 case stuck=>cases h
 case move x=>exact ZT h
 case pick c a b=>
  unfold ZbZ at h;split at h
  ·split at h<;>exact ZT h
  ·cases h
 case build zs ps=>obtain⟨cs,_,h⟩:=Za h;exact ZT h
 case nilCheck x=>unfold WI at h;split at h<;>first | exact ZT h | cases h
 case bin op eq x y=>
  unfold Ziu at h;split at h
  ·split at h
   ·exact Qu h
   ·cases h
  ·exact Qu h
 case un op x=>exact Qu h
 case eqA neg n x y=>
  unfold ZlD at h;split at h
  ·obtain⟨r,_,h⟩:=Za h;exact ZT h
  ·cases h
 case convI k x=>unfold Go.Abs.convI at h;split at h<;>first | exact ZT h | cases h
 case convS x=>unfold Go.Abs.convS at h;split at h<;>first | exact ZT h | cases h
 case sliceS x lo hi=>exact Qu h
 case shift off x=>unfold Y3 at h;split at h<;>first | exact ZT h | cases h
 case part g s off x=>exact Qu h
 case iaA len s x i=>
  obtain⟨n,_,h⟩:=Za h;unfold Ziw at h;split at h
  ·unfold Y3 at h;split at h<;>first | exact ZT h | cases h
  ·cases h
 case ixS x i=>
  obtain⟨n,_,h⟩:=Za h;unfold Zoe at h;split at h
  ·unfold Zm5 at h;split at h
   ·obtain⟨b,_,h⟩:=Za h;exact ZT h
   ·cases h
  ·cases h
 case ixA g s len x i=>
  obtain⟨n,_,h⟩:=Za h;unfold Zqy at h;split at h
  ·exact Qu h
  ·cases h
 case nth i x=>unfold Zm6 at h;split at h<;>first | exact Qu h | cases h
 case lenS x=>obtain⟨n,_,h⟩:=Za h;exact ZT h
 case min x y=>unfold Zgp at h;split at h<;>first | (split at h<;>first | exact ZT h | cases h) | cases h
 case max x y=>unfold Zgq at h;split at h<;>first | (split at h<;>first | exact ZT h | cases h) | cases h
theorem Zgj {c:AV} (h:JX c=true):ZF g c=c:=by cases c<;>first | rfl | cases h
theorem ZaP:∀ {cs:List AV},Yr cs=true→∀ c∈cs,JX c=true
 | [],_,c,hc=>by simp at hc
 | x :: l,h,c,hc=>by
  simp only[Yr,Kc] at h;rcases Ke.1 hc with rfl | hc
  ·exact h.1
  ·exact ZaP h.2 c hc
theorem Zfr:∀ (slc:List (Option Nat)) (cs:List AV) (b:Nat),(∀ c∈(mat slc cs b).1,c∈cs∨∃ k o,c=.own k∧(k,o)∈(mat slc cs b).2)∧∀ k o,(k,o)∈(mat slc cs b).2→∃ sz,o=.row sz [] true false
 | [],cs,b=>by simp only[mat];exact⟨fun c hc=>.inl hc,fun k o h=>by simp at h⟩
 | t :: ts,[],b=>by cases t<;>(simp only[mat];exact⟨fun c hc=>.inl hc,fun k o h=>by simp at h⟩)
 | t :: ts,v :: vs,b=>by
  by_cases hv:(∃ sz,t=some sz)∧v=.nil
  ·obtain⟨⟨sz,rfl⟩,rfl⟩:=hv;obtain⟨h1,h2⟩:=Zfr ts vs (b+1);simp only[mat];refine⟨fun c hc=>?_,fun k o h=>?_⟩
   ·rcases Ke.1 hc with rfl | hc
    ·exact .inr ⟨b,_,rfl,KX ..⟩
    ·rcases h1 c hc with h | ⟨k,o,e,h⟩
     ·exact .inl (Kr _ h)
     ·exact .inr ⟨k,o,e,Kr _ h⟩
   ·rcases Ke.1 h with h | h
    ·cases h;exact⟨_,rfl⟩
    ·exact h2 k o h
  ·obtain⟨h1,h2⟩:=Zfr ts vs b;have e:mat (t :: ts) (v :: vs) b=(v :: (mat ts vs b).1,(mat ts vs b).2):=by
    cases t with
    | none=>simp[mat]
    | some sz=>cases v<;>first | (exact absurd ⟨⟨sz,rfl⟩,rfl⟩ hv) | simp[mat]
   rw[e];refine⟨fun c hc=>?_,h2⟩;rcases Ke.1 hc with rfl | hc
   ·exact .inl (KX ..)
   ·rcases h1 c hc with h | h
    ·exact .inl (Kr _ h)
    ·exact .inr h
theorem Zkc {base:Nat}:∀ {cs:List AV},Yr cs=true→cs.map (ZdE base)=cs
 | [],_=>rfl
 | c :: cs,h=>by
  simp only[Yr,Kc] at h;rw[Ki,Zkc h.2];congr 1
  cases c<;>first | rfl | (simp[JX] at h)
theorem Zkd:∀ {cs:List AV},Yr cs=true→Q9 cs=true
 | [],_=>rfl
 | c :: cs,h=>by
  simp only[Yr,Kc] at h;have:=Zkd h.2;cases c<;>first | exact this | (simp[JX] at h)
theorem Zgk {slc:List (Option Nat)} {cs:List AV} {ce:Zb} (hb:∀ k,base≤k→k<base+64→k∉g) (hc:Yr cs=true) (h:Zb0 slc base cs=some ce) (ad:QD base (base+64) ce.eff.adds=true) :
  (∀ id∈Zl ce.eff.val,id∉g)∧∀ k o,(k,o)∈ce.eff.adds→QU g o=o:=by
 have hr:=V5 ad;unfold Zb0 at h;rw[Zkc hc] at h;unfold Zis at h;rw[Kf (by rw[Zkd hc];decide)] at h;split at h
 ·cases h;simp only at hr ⊢;obtain⟨h1,h2⟩:=Zfr slc cs (base+1);refine⟨fun id aa=>?_,fun k o hm=>?_⟩
  ·simp[Zl,Zo,Zg] at aa;subst aa;exact hb _ (Kg _) (by omega)
  ·rcases Ke.1 hm with hm | hm
   ·cases hm;simp only[QU];congr 1
    rw[KJ (g:=id),Lu];intro c ab;rcases h1 c ab with h | ⟨k,o,rfl,h⟩
    ·exact Zgj (ZaP hc c h)
    ·have:=hr k o (Kr _ h);have hk:=hb k this.1 this.2;simp[ZF,ZU,hk]
   ·obtain⟨sz,rfl⟩:=h2 k o hm;rfl
 ·cases h;simp only at hr ⊢;refine⟨fun id aa=>?_,fun k o hm=>?_⟩
  ·simp[Zl,Zo,Zg] at aa;subst aa;exact hb _ (Kg _) (by omega)
  ·simp at hm;obtain⟨rfl,rfl⟩:=hm;simp only[QU];congr 1
   rw[KJ (g:=id),Lu];exact fun c ab=>Zgj (ZaP hc c ab)
theorem Zqk {c:COp} (hc:ZiN c=true) (he:∀ x∈Zr c,evO sl' x=evO sl x) (hs:∀ x∈Zr c,Zel g hp hp' (evO sl x)) {ce:Zb}
  (hb:∀ k,base≤k→k<base+64→k∉g) (h:vop C M sl hp base c=some ce) (ab:QD base (base+64) ce.eff.adds=true) (ad:ce.eff.frz=[]) (ho:okV ce.eff.val=true) (hk:kill g ce.eff.val=ce.eff.val):vop C M sl' hp' base c=some ce∧∀ k o,(k,o)∈ce.eff.adds→QU g o=o:=by
 rw[QO C M hp' base he];have aa:ce.eff.adds=[]→∀ k o,(k,o)∈ce.eff.adds→QU g o=o:=fun e k o hm=>by rw[e] at hm;simp at hm
 simp only[ZiN,Lv,Kc] at hc;rcases hc with ((hc | hc) | ⟨hc1,hc2⟩) | hc
 ·cases c<;>simp only[Wq,Ka] at hc<;>simp only[vop] at h ⊢ <;> simp only[Zr] at hs
  case load a s x=>exact⟨Zpd h (Zqi (hs x (by simp)) (W1 h) ho hk),aa (Qu h)⟩
  case slice s x lo hi=>
   rw[ZbO (hs x (by simp))];exact⟨h,aa (Qu h)⟩
  case slice0 x hi mx=>
   unfold slice0 at h ⊢;rw[Zam (hs x (by simp))];exact⟨h,aa (Qu h)⟩
  case iaS s x i=>
   obtain⟨n,h1,h⟩:=Za h;rw[h1,Zc];unfold Zc8 at h ⊢;rw[Ug (hs x (by simp))];refine⟨h,aa ?_⟩;split at h
   ·exact Qu h
   ·cases h
  case len x=>
   rw[Zam (hs x (by simp))];refine⟨h,aa ?_⟩;obtain⟨n,_,h⟩:=Za h;exact ZT h
 ·cases c<;>simp only[Zku,Ka] at hc
  simp only[vop] at h ⊢;obtain⟨h1,h2,h3⟩:=Zc3 h ad hp';refine⟨h1,fun k o hm=>?_⟩;obtain⟨sz,xs,e,f,rfl⟩:=h3 k o hm;rfl
 ·rw[← Zem (hp:=hp) hc1];exact⟨h,aa (Zoa hc1 hc2 h)⟩
 ·cases c<;>simp only[Zha,Ka] at hc
  simp only[vop] at h ⊢;exact⟨h,(Zgk hb hc h ab).2⟩
theorem Zob {c:COp} (hc:ZeD c=true) (he:∀ x∈Zr c,evO sl' x=evO sl x) (hs:∀ x∈Zr c,Zel g hp hp' (evO sl x)) {ce:Zb}
  (hn:∀ x∈Zr c,∀ id∈Zl (evO sl x),id∉g) (hb:∀ k,base≤k→k<base+64→k∉g)
  (h:vop C M sl' hp' base c=some ce) (ad:QD base (base+64) ce.eff.adds=true) (ae:ce.eff.frz=[]) (ho:okV ce.eff.val=true):vop C M sl hp base c=some ce∧kill g ce.eff.val=ce.eff.val∧∀ k o,(k,o)∈ce.eff.adds→QU g o=o:=by
 rw[QO C M hp' base he] at h;have aa:ce.eff.adds=[]→∀ k o,(k,o)∈ce.eff.adds→QU g o=o:=fun e k o hm=>by rw[e] at hm;simp at hm
 have names:(∀ id∈Zl ce.eff.val,id∉g)→kill g ce.eff.val=ce.eff.val:=Zpc ho;cases c<;>simp only[ZeD,Ka] at hc<;>simp only[vop] at h ⊢ <;> simp only[Zr] at hs hn
 case alloc slc cs=>
  obtain⟨h1,h2⟩:=Zgk hb hc h ad;exact⟨h,names h1,h2⟩
 case buildSl s xs=>
  obtain⟨h1,h2,h3⟩:=Zc3 h ae hp;refine⟨h1,names fun id ab=>?_,fun k o hm=>?_⟩
  ·rcases h2 with h2 | h2
   ·rw[h2] at ab;simp[Zl,Zo,Zg] at ab
   ·rw[h2] at ab;simp[Zl,Zo,Zg] at ab;subst ab;exact hb _ (Kg _) (by omega)
  ·obtain⟨sz,xs,e,f,rfl⟩:=h3 k o hm;rfl
 case load a s x=>
  obtain⟨h1,h2⟩:=Zqj (hs x (by simp)) (W1 h) ho;exact⟨Zpd h h1,h2,aa (Qu h)⟩
 case nilCheck x=>
  have hx:=hn x (by simp);refine⟨h,names ?_,aa ?_⟩
  ·unfold WI at h;split at h<;>rename_i hv<;>first | (cases h;done) | (cases h;show ∀ id∈Zl _,_;rw[← hv];exact hx)
  ·unfold WI at h;split at h<;>first | exact ZT h | cases h
 case bin op eq x y=>
  have hd:∃ d,ce.eff.val=.d d:=by
   have o2:∀ {a b:AV},YA (vbin op a b)=some ce→∃ d,ce.eff.val=.d d:=fun {a b} h=>by
    have h1:=W1 h;unfold vbin at h1;split at h1
    ·unfold WD at h1;split at h1
     ·obtain⟨y,_,h1⟩:=Za h1;exact⟨_,(Option.some.inj h1).symm⟩
     ·obtain⟨y,_,h1⟩:=Za h1;exact⟨_,(Option.some.inj h1).symm⟩
     ·split at h1
      ·obtain⟨y,_,h1⟩:=Za h1;have:=Option.some.inj h1;exact⟨_,this.symm⟩
      ·cases h1
    ·obtain⟨y,_,h1⟩:=Za h1;have:=Option.some.inj h1;exact⟨_,this.symm⟩
    ·cases h1
   unfold Ziu at h;split at h
   ·split at h
    ·have h1:=W1 h;unfold ZjW at h1;split at h1
     ·exact⟨_,(Option.some.inj h1).symm⟩
     ·exact⟨_,(Option.some.inj h1).symm⟩
     ·cases h1
    ·cases h
   ·exact o2 h
  obtain⟨d,hd⟩:=hd;refine⟨h,by rw[hd];rfl,aa ?_⟩;unfold Ziu at h;split at h
  ·split at h
   ·exact Qu h
   ·cases h
  ·exact Qu h
 case un op x=>
  have hd:∃ d,ce.eff.val=.d d:=by
   have h1:=W1 h;unfold vun at h1;split at h1
   ·unfold neg1 at h1;split at h1
    ·exact⟨_,(Option.some.inj h1).symm⟩
    ·cases h1
   ·unfold not1 at h1;split at h1
    ·exact⟨_,(Option.some.inj h1).symm⟩
    ·cases h1
   ·cases h1
  obtain⟨d,hd⟩:=hd;exact⟨h,by rw[hd];rfl,aa (Qu h)⟩
 case convI k x=>
  unfold Go.Abs.convI at h ⊢;split at h
  ·exact⟨h,by cases h;rfl,aa (ZT h)⟩
  ·cases h
 case shift off x=>
  have hx:=hn x (by simp);refine⟨h,names ?_,aa ?_⟩
  ·unfold Y3 at h;split at h<;>rename_i hv<;>first | (cases h;done) | skip
   ·cases h;rw[hv] at hx;simpa [Zl,Zo,Zg] using hx
   ·cases h;rw[hv] at hx;simpa [Zl,Zo,Zg] using hx
   ·cases h;simp[Zl,Zo,Zg]
  ·unfold Y3 at h;split at h<;>first | exact ZT h | cases h
 case slice s x lo hi=>
  have hx:=hn x (by simp);rw[ZbO (hs x (by simp))] at h;refine⟨h,names ?_,aa (Qu h)⟩;have h1:=W1 h;cases hv:evO sl x<;>rw[hv] at h1 hx<;>simp only[Yz] at h1<;>first | (cases h1;done) | skip
  case d y=>
   cases y<;>simp only[Yz] at h1<;>first | (cases h1;done) | skip
   split at h1
   ·obtain⟨b,_,h1⟩:=Za h1;rw[← Option.some.inj h1];simp[Zl,Zo,Zg]
   ·cases h1
  case nil=>obtain⟨b,_,h1⟩:=Za h1;rw[← Option.some.inj h1];simp[Zl,Zo,Zg]
  case own id=>
   unfold Jc at h1;split at h1
   ·split at h1
    ·unfold Zm3 at h1;split at h1
     ·rw[← Option.some.inj h1];exact hx
     ·obtain⟨b,_,h1⟩:=Za h1;rw[← Option.some.inj h1];simpa [Zl,Zo,Zg] using hx
    ·cases h1
   ·cases h1
  case ownv id off n=>
   unfold WH at h1;split at h1
   ·split at h1
    ·obtain⟨b,_,h1⟩:=Za h1;rw[← Option.some.inj h1];simpa [Zl,Zo,Zg] using hx
    ·cases h1
   ·cases h1
 case sliceS x lo hi=>
  have hd:∃ d,ce.eff.val=.d d:=by
   have h1:=W1 h;unfold sliceS at h1;split at h1
   ·obtain⟨b,_,h1⟩:=Za h1;exact⟨_,(Option.some.inj h1).symm⟩
   ·cases h1
  obtain⟨d,hd⟩:=hd;exact⟨h,by rw[hd];rfl,aa (Qu h)⟩
 case lenS x=>
  obtain⟨n,h1,h⟩:=Za h;refine⟨by rw[h1,Zc];exact h,by cases h;rfl,aa (ZT h)⟩
 case iaS s x i=>
  have hx:=hn x (by simp);obtain⟨n,h1,h⟩:=Za h;rw[h1,Zc];unfold Zc8 at h ⊢;rw[Ug (hs x (by simp))] at h;refine⟨h,names ?_,aa ?_⟩
  ·split at h
   ·have h1:=W1 h;cases hv:evO sl x<;>rw[hv] at h1 hx<;>simp only[Qh] at h1<;>first | (cases h1;done) | skip
    case d y=>
     cases y<;>simp only[Qh] at h1<;>first | (cases h1;done) | skip
     obtain⟨b,_,h1⟩:=Za h1;unfold Zpl at h1;split at h1
     ·rw[← Option.some.inj h1];simp[Zl,Zo,Zg]
     ·cases h1
    case own id=>
     unfold JC at h1;split at h1
     ·split at h1
      ·rw[← Option.some.inj h1];simpa [Zl,Zo,Zg] using hx
      ·cases h1
     ·split at h1
      ·rw[← Option.some.inj h1];simpa [Zl,Zo,Zg] using hx
      ·cases h1
     ·cases h1
    case ownv id off n=>
     unfold Jb at h1;split at h1
     ·split at h1
      ·rw[← Option.some.inj h1];simpa [Zl,Zo,Zg] using hx
      ·cases h1
     ·cases h1
   ·cases h
  ·split at h
   ·exact Qu h
   ·cases h
 case len x=>
  rw[Zam (hs x (by simp))] at h;obtain⟨n,h1,h2⟩:=Za h;exact⟨h,by cases h2;rfl,aa (ZT h2)⟩
end
end Go.Abs
