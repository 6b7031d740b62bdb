/- Own text. -/
import Derived.Test.YtnachaiejoflhaaDoorAbsDraw3
import Derived.Test.YtnachaiejoflhaaDoorAbsSound5
set_option linter.unusedVariables false
set_option linter.unusedSimpArgs false
namespace Go.Abs
open Go
theorem ZoR {v:AV} (h:okC v=true):okV v=true:=by
 cases v<;>first | exact h | cases h
theorem Ze7 {g:List Nat} {v:AV} (h:okC (ZT g v)=true):ZT g v=v:=by
 cases v<;>simp only[ZT] at h ⊢ <;> first | rfl | (split at h<;>rename_i h' <;> first | (cases h;done) | rw[Kf h'])
theorem Zds {g:List Nat}:∀ {cs:List AV},ZlA (cs.map (ZT g))=true→cs.map (ZT g)=cs
 | [],_=>rfl
 | c :: cs,h=>by
  simp only[Kl,ZlA,Kb] at h ⊢;rw[Ze7 h.1,Zds h.2]
theorem J8 {g:List Nat} {v:AV} (h:okV (ZE g v)=true):ZE g v=v:=by
 cases v with
 | agg cs=>simp only[ZE,okV] at h ⊢;rw[Zds h]
 | clo f cs=>simp only[ZE,okV,okC] at h;cases h
 | tup vs=>rfl
 | _=>
  simp only[ZE] at h ⊢;refine Ze7 ?_;revert h;simp only[ZT]
  first | exact id | (split<;>first | exact id | (intro h;cases h))
theorem UV {g:List Nat} {v:AV} (h:okV (kill g v)=true):kill g v=v:=by
 cases v with
 | tup vs=>
  cases vs with
  | nil=>rfl
  | cons x r=>simp only[kill,Kl,okV,okC] at h;cases h
 | _=>simp only[kill] at h ⊢;exact J8 h
theorem Zmu {g:List Nat} {v:AV} (hn:∀ id∈Zg v,id∉g):ZT g v=v:=by
 cases v<;>simp only[ZT]<;>first | rfl | (rw[Kf];simpa [Zg] using hn)
theorem ZoS {g:List Nat} {v:AV} (h:okV v=true) (hn:∀ id∈Zl v,id∉g):kill g v=v:=by
 cases v with
 | tup vs=>
  cases vs with
  | nil=>rfl
  | cons x r=>simp only[okV,okC] at h;cases h
 | clo f cs=>simp only[okV,okC] at h;cases h
 | agg cs=>
  simp only[kill,ZE];congr 1
  rw[KI (g:=id),Lj];intro c hc;exact Zmu fun id aa=>hn id (by simp only[Zl,Zo,Kp];exact⟨c,hc,aa⟩)
 | _=>simp only[kill,ZE];exact Zmu hn
theorem Zrv {g:List Nat} {v:AV} (h:kill g v=v):∀ id∈Zl v,id∉g:=fun id aa=>(ZjJ g v id (by rw[h];exact aa)).2
theorem ZpT {g:List Nat} {c:AV} (h:okC c=true) (h1:ZT g c=c):ZE g c=c:=by
 cases c<;>simp only[ZE]<;>first | exact h1 | cases h
def UW (g:List Nat):Option Zf→Option Zf→Prop
 | none,none=>True
 | some (.row s xs _ _),some (.row s' xs' _ _)=>s'=s∧xs'=xs
 | some (.box cs),some (.box cs')=>cs'=cs.map (ZE g)
 | some (.tree s n xs l),some (.tree s' n' xs' l')=>s'=s∧n'=n∧xs'=xs∧l'=YS g l
 | some .gone,some .gone=>True
 | _,_=>False
theorem Zmv {g:List Nat} {b:Bool} (o:Option Zf):UW g o ((o.map (QU g)).map fun o=>if b then Ye o else o):=by
 cases o with
 | none=>trivial
 | some o=>cases o<;>cases b<;>exact(by first | exact⟨rfl,rfl⟩ | exact rfl | exact⟨rfl,rfl,rfl,rfl⟩ | exact trivial)
theorem ZjU {g:List Nat}:∀ {l:List AV} {ds:List D},Zay l=some ds→l.map (ZE g)=l
 | [],ds,_=>rfl
 | v :: l,ds,h=>by
  simp only[Zay] at h;obtain⟨x,h1,h⟩:=Za h;obtain⟨aa,h2,h⟩:=Za h;have:ZE g v=v:=by cases v<;>first | rfl | cases h1
  rw[Kl,this,ZjU h2]
theorem ZhZ {g:List Nat}:∀ {l:List AV} {ds:List D},Zay (l.map (ZE g))=some ds→l.map (ZE g)=l
 | [],ds,_=>rfl
 | v :: l,ds,h=>by
  simp only[Kl,Zay] at h;obtain⟨x,h1,h⟩:=Za h;obtain⟨aa,h2,h⟩:=Za h;have hv:ZE g v=v:=by
   refine J8 ?_;cases hk:ZE g v<;>rw[hk] at h1<;>first | rfl | cases h1
  rw[Kl,hv,ZhZ h2]
theorem ZbC (l:List AV):(∃ ds,Zay l=some ds∧Wa l=.d (.agg ds))∨(Zay l=none∧(Wa l=.junk∨Wa l=.agg l)):=by
 unfold Wa;cases h:Zay l with
 | some ds=>exact .inl ⟨ds,rfl,rfl⟩
 | none=>
  refine .inr ⟨rfl,?_⟩;unfold VA;split
  ·rename_i h;cases h
  ·split
   ·exact .inl rfl
   ·exact .inr rfl
theorem Zd8:∀ {l:List AV},ZlA l=true→∀ c∈l,okC c=true
 | [],_,c,hc=>by simp at hc
 | x :: l,h,c,hc=>by
  simp only[ZlA,Kb] at h;rcases Ke.1 hc with rfl | hc
  ·exact h.1
  ·exact Zd8 h.2 c hc
theorem ZpU {g:List Nat} {l:List AV} (h:okV (Wa l)=true) (hk:kill g (Wa l)=Wa l):l.map (ZE g)=l:=by
 rcases ZbC l with ⟨ds,h1,h2⟩ | ⟨h1,h2 | h2⟩
 ·exact ZjU h1
 ·rw[h2] at h;cases h
 ·rw[h2] at h hk;simp only[kill,ZE,AV.agg.injEq] at hk;simp only[okV] at h;have hm:=Zd8 h;have aa : ∀ c∈l,ZT g c=c:=by
   intro c hc;have:=Zds (g:=g) (cs:=l) (by rw[hk];exact h);exact Ze7 (by
    have h3:ZT g c∈l.map (ZT g):=List.mem_map_of_mem hc;rw[hk] at h3;exact hm _ h3)
  rw[KI (g:=id),Lj];intro c hc;exact ZpT (hm c hc) (aa c hc)
theorem ZpV {g:List Nat} {l:List AV} (h:okV (Wa (l.map (ZE g)))=true):l.map (ZE g)=l:=by
 rcases ZbC (l.map (ZE g)) with ⟨ds,h1,h2⟩ | ⟨h1,h2 | h2⟩
 ·exact ZhZ h1
 ·rw[h2] at h;cases h
 ·rw[h2] at h;simp only[okV] at h;have hm:=Zd8 h;rw[KI (g:=id),Lj];intro c hc;exact J8 (ZoR (hm _ (List.mem_map_of_mem hc)))
theorem ZnM {g:List Nat} {v:AV} (h:okV v=true) (hk:kill g v=v):ZE g v=v:=by
 cases v with
 | tup vs=>rfl
 | _=>simp only[kill] at hk;exact hk
theorem ZnN {g:List Nat} {v:AV} (h:okV v=true) (hk:ZE g v=v):kill g v=v:=by
 cases v with
 | tup vs=>
  cases vs with
  | nil=>rfl
  | cons x r=>simp only[okV,okC] at h;cases h
 | _=>simp only[kill];exact hk
theorem ZcS {α β:Type} (f:α→β) (l:List α) (a b:Nat):((l.map f).drop a).take b=((l.drop a).take b).map f:=by
 rw[← List.map_drop,← List.map_take]
theorem ZfW (g:List Nat) (c:AV):Zed (ZE g c)=ZE g (Zed c):=by
 have aa:∀ v:AV,(∀ a b,v≠.bbuf a b)→Zed v=v:=fun v h'=>by cases v<;>first | rfl | exact absurd rfl (h' _ _)
 by_cases h' : ∃ a b,c=.bbuf a b
 ·obtain⟨a,b,rfl⟩:=h';rfl
 ·have h2:∀ a b,c≠.bbuf a b:=fun a b e=>h' ⟨a,b,e⟩;rw[aa c h2,aa];exact fun a b e=>h2 a b ((VO g c a b).1 e)
theorem Zmw {g:List Nat} {cs:List AV} {a:Bool} {s off:Nat} {v:AV} (h:WS a s off (some (.box cs))=some v) (ho:okV v=true) (hk:kill g v=v):WS a s off (some (.box (cs.map (ZE g))))=some v:=by
 unfold WS at h ⊢;cases a with
 | true=>
  simp only[Kk] at h ⊢;split at h
  ·rename_i hl;cases h;rw[Ko (by simpa using hl),ZcS,ZpU ho hk]
  ·cases h
 | false=>
  simp only[Ka,Km] at h ⊢;obtain⟨c,hc,rfl⟩:=Option.map_eq_some_iff.1 h;rw[K3,hc];simp only[KN];rw[ZfW,ZnM ho hk]
theorem Zmx {g:List Nat} {cs:List AV} {a:Bool} {s off:Nat} {v:AV} (h:WS a s off (some (.box (cs.map (ZE g))))=some v) (ho:okV v=true):WS a s off (some (.box cs))=some v∧kill g v=v:=by
 unfold WS at h ⊢;cases a with
 | true=>
  simp only[Kk] at h ⊢;split at h
  ·rename_i hl;cases h;rw[ZcS] at ho ⊢;have he:=ZpV ho;rw[he] at ho ⊢;refine⟨by rw[Ko (by simpa using hl)],?_⟩;rcases ZbC ((cs.drop off).take s) with ⟨ds,h1,h2⟩ | ⟨h1,h2 | h2⟩
   ·rw[h2];rfl
   ·rw[h2] at ho;cases ho
   ·rw[h2] at ho ⊢;simp only[okV] at ho;have hm:=Zd8 ho;simp only[kill,ZE,AV.agg.injEq];rw[KI (g:=id),Lj];intro c hc;have h3:ZE g c=c:=by
     refine J8 ?_;have h4:ZE g c∈((cs.drop off).take s).map (ZE g):=List.mem_map_of_mem hc;rw[he] at h4;exact ZoR (hm _ h4)
    have:=hm c hc;cases c<;>first | exact h3 | cases this
  ·cases h
 | false=>
  simp only[Ka,Km] at h ⊢;rw[K3] at h;cases hc:cs[off]? with
  | none=>rw[hc] at h;cases h
  | some c=>
   rw[hc] at h;simp only[KN,Option.some.injEq] at h;rw[ZfW] at h;have h3:ZE g (Zed c)=Zed c:=J8 (by rw[h];exact ho);rw[h3] at h;subst h;exact⟨rfl,ZnN ho h3⟩
theorem ZnO {g:List Nat} {o o' : Option Zf} (h:UW g o o'):Y8 o'=Y8 o:=by
 cases o with
 | none=>cases o' with
  | none=>rfl
  | some o'=>cases h
 | some o=>cases o' with
  | none=>cases o<;>cases h
  | some o' =>
   have tr:∀ s n xs l,Y8 (some (.tree s n xs (YS g l)))=Y8 (some (.tree s n xs l)):=by
    intro s n xs l;rcases l with _ | ⟨_ | nm,_⟩
    ·rfl
    ·rfl
    ·simp only[YS];split<;>rfl
   cases o<;>cases o' <;> simp only[UW] at h<;>first | (cases h;done) | rfl | (obtain⟨rfl,rfl⟩:=h;rfl) | (obtain⟨rfl,rfl,rfl,rfl⟩:=h;exact tr _ _ _ _)
theorem UX {g:List Nat} {o o' : Option Zf} (h:UW g o o'):(∃ s xs e f e' f',o=some (.row s xs e f)∧o'=some (.row s xs e' f'))∨(o=none∧o'=none)∨(∃ cs,o=some (.box cs)∧o'=some (.box (cs.map (ZE g))))∨(o=some .gone∧o'=some .gone)∨(∃ s n xs l,o=some (.tree s n xs l)∧o'=some (.tree s n xs (YS g l))):=by
 cases o with
 | none=>cases o' with
  | none=>exact .inr (.inl ⟨rfl,rfl⟩)
  | some o'=>cases h
 | some o=>cases o' with
  | none=>cases o<;>cases h
  | some o' =>
   cases o with
   | box cs=>cases o' with
    | box cs'=>simp only[UW] at h;subst h;exact .inr (.inr (.inl ⟨cs,rfl,rfl⟩))
    | row _ _ _ _=>cases h
    | gone=>cases h
    | tree _ _ _ _=>cases h
   | row s xs e f=>cases o' with
    | box cs'=>cases h
    | row s' xs' e' f'=>simp only[UW] at h;obtain⟨rfl,rfl⟩:=h;exact .inl ⟨_,_,_,_,_,_,rfl,rfl⟩
    | gone=>cases h
    | tree _ _ _ _=>cases h
   | gone=>cases o' with
    | box cs'=>cases h
    | row _ _ _ _=>cases h
    | gone=>exact .inr (.inr (.inr (.inl ⟨rfl,rfl⟩)))
    | tree _ _ _ _=>cases h
   | tree s n xs l=>cases o' with
    | box cs'=>cases h
    | row _ _ _ _=>cases h
    | gone=>cases h
    | tree s' n' xs' l'=>simp only[UW] at h;obtain⟨rfl,rfl,rfl,rfl⟩:=h;exact .inr (.inr (.inr (.inr ⟨_,_,_,_,rfl,rfl⟩)))
section
variable {g:List Nat} {o o' : Option Zf}
theorem Zlb (h:UW g o o') (sz id n:Nat):Jt sz id n o'=Jt sz id n o:=by
 rcases UX h with ⟨s,xs,e,f,e',f',rfl,rfl⟩ | ⟨rfl,rfl⟩ | ⟨cs,rfl,rfl⟩ | ⟨rfl,rfl⟩ | ⟨s,n,xs,l,rfl,rfl⟩<;>rfl
theorem Zjo (h:UW g o o') (sz id off m n:Nat):U3 sz id off m n o'=U3 sz id off m n o:=by
 rcases UX h with ⟨s,xs,e,f,e',f',rfl,rfl⟩ | ⟨rfl,rfl⟩ | ⟨cs,rfl,rfl⟩ | ⟨rfl,rfl⟩ | ⟨s,n,xs,l,rfl,rfl⟩<;>rfl
theorem Zjp (h:UW g o o') (s id:Nat) (lo hi:Option AV):U4 s id lo hi o'=U4 s id lo hi o:=by
 rcases UX h with ⟨s,xs,e,f,e',f',rfl,rfl⟩ | ⟨rfl,rfl⟩ | ⟨cs,rfl,rfl⟩ | ⟨rfl,rfl⟩ | ⟨s,n,xs,l,rfl,rfl⟩<;>rfl
theorem Zh0 (h:UW g o o') (s id off n:Nat) (lo hi:Option AV):WD s id off n lo hi o'=WD s id off n lo hi o:=by
 rcases UX h with ⟨s,xs,e,f,e',f',rfl,rfl⟩ | ⟨rfl,rfl⟩ | ⟨cs,rfl,rfl⟩ | ⟨rfl,rfl⟩ | ⟨s,n,xs,l,rfl,rfl⟩<;>rfl
theorem Zlc {i off:Nat} {l:Option (Option Nat×Nat×Nat)} {x:D} {v:AV} (h:Wf i off l x=some v) (hk:kill g v=v):Wf i off (YS g l) x=some v:=by
 unfold Wf at h ⊢;split at h
 ·unfold Zf4 at h;split at h
  ·rename_i nm i' c;split at h
   ·rename_i hc;cases h;have:g.contains nm=false:=by
     cases hg:g.contains nm with
     | false=>rfl
     | true=>simp only[kill,ZE,ZT,hg,Kk] at hk;cases hk
    simp only[YS,this,Ka,Km,Zf4,hc,and_self,Kk]
   ·cases h
  ·cases h
 ·exact h
 ·cases h
theorem Zld {i off:Nat} {l:Option (Option Nat×Nat×Nat)} {x:D} {v:AV} (h:Wf i off (YS g l) x=some v):Wf i off l x=some v∧kill g v=v:=by
 unfold Wf at h ⊢;split at h
 ·unfold Zf4 at h;split at h
  ·rename_i nm i' c hl;split at h
   ·rename_i hc;cases h;unfold YS at hl;split at hl
    ·rename_i ab q;split at hl
     ·cases hl
     ·rename_i hg;cases hl;simp only[Bool.not_eq_true] at hg;exact⟨by simp only[Zf4,hc,and_self,Kk],by simp only[kill,ZE,ZT,hg,Ka,Km]⟩
    ·rename_i aa;subst hl;exact absurd rfl (aa _ _)
   ·cases h
  ·cases h
 ·split at h
  ·rename_i hp;cases h;exact⟨by rw[Ko hp],rfl⟩
  ·cases h
 ·cases h
theorem Zd9 {id:Nat} (h:UW g o o') {a:Bool} {s sz i off:Nat} {v:AV}:(Wg id a s sz i off o=some v→kill g v=v→Wg id a s sz i off o'=some v)∧(Wg id a s sz i off o'=some v→Wg id a s sz i off o=some v∧kill g v=v):=by
 have aa:∀ {cs:List D},U1 a s off cs=some v→∃ d,v=.d d:=by
  intro cs h;unfold U1 at h;split at h
  ·split at h
   ·cases h;exact⟨_,rfl⟩
   ·cases h
  ·unfold asD at h;obtain⟨y,_,h⟩:=Za h;cases h;exact⟨_,rfl⟩
 rcases UX h with ⟨s,xs,e,f,e',f',rfl,rfl⟩ | ⟨rfl,rfl⟩ | ⟨cs,rfl,rfl⟩ | ⟨rfl,rfl⟩ | ⟨s,n,xs,l,rfl,rfl⟩
 ·refine⟨fun h _=>h,fun h=>⟨h,?_⟩⟩;simp only[Wg] at h;split at h
  ·obtain⟨x,_,h⟩:=Za h;unfold Zee at h;split at h
   ·obtain⟨d,rfl⟩:=aa h;rfl
   ·cases h
  ·cases h
 ·exact⟨fun h _=>(by cases h),fun h=>(by cases h)⟩
 ·exact⟨fun h _=>(by cases h),fun h=>(by cases h)⟩
 ·exact⟨fun h _=>(by cases h),fun h=>(by cases h)⟩
 ·simp only[Wg];split
  ·split
   ·exact⟨fun h _=>(by cases h),fun h=>(by cases h)⟩
   ·constructor
    ·intro hh hk;obtain⟨x,h1,hh⟩:=Za hh;rw[h1,Zc];exact Zlc hh hk
    ·intro hh;obtain⟨x,h1,hh⟩:=Za hh;rw[h1,Zc];exact Zld hh
  ·exact⟨fun h _=>(by cases h),fun h=>(by cases h)⟩
end
section
variable {hp hp' : Hp} {g:List Nat}
def Zea (g:List Nat) (hp hp' : Hp) (v:AV):Prop:=∀ k∈Zl v,UW g (lkp hp k) (lkp hp' k)
theorem J9 {v:AV} (h:Zea g hp hp' v):JH hp' v=JH hp v:=by
 cases v<;>simp only[JH]
 case d x=>cases x<;>rfl
 case own id=>rw[ZnO (h id (by simp[Zl,Zo,Zg]))]
theorem Ub {v:AV} (h:Zea g hp hp' v) (sz n:Nat):Qh hp' sz n v=Qh hp sz n v:=by
 cases v<;>simp only[Qh]
 case d x=>cases x<;>rfl
 case own id=>rw[Zlb (h id (by simp[Zl,Zo,Zg]))]
 case ownv id off n=>rw[Zjo (h id (by simp[Zl,Zo,Zg]))]
theorem ZbD {v:AV} (h:Zea g hp hp' v) (s:Nat) (lo hi:Option AV):Yv hp' s lo hi v=Yv hp s lo hi v:=by
 cases v<;>simp only[Yv]
 case d x=>cases x<;>rfl
 case own id=>rw[Zjp (h id (by simp[Zl,Zo,Zg]))]
 case ownv id off n=>rw[Zh0 (h id (by simp[Zl,Zo,Zg]))]
theorem ZpW {x v:AV} (hs:Zea g hp hp' x) {a:Bool} {s:Nat} (h:Vw hp a s x=some v) (ho:okV v=true) (hk:kill g v=v):Vw hp' a s x=some v:=by
 cases x<;>simp only[Vw] at h ⊢ <;> first | (cases h;done) | skip
 case ptr id off=>
  rcases UX (hs id (by simp[Zl,Zo,Zg])) with ⟨_,_,_,_,_,_,e1,e2⟩ | ⟨e1,e2⟩ | ⟨cs,e1,e2⟩ | ⟨e1,e2⟩ | ⟨_,_,_,_,e1,e2⟩
  ·rw[e1] at h;cases h
  ·rw[e1] at h;cases h
  ·rw[e1] at h;rw[e2];exact Zmw h ho hk
  ·rw[e1] at h;cases h
  ·rw[e1] at h;cases h
 case prow id sz i off=>exact(Zd9 (hs id (by simp[Zl,Zo,Zg]))).1 h hk
 case pim cs=>exact h
theorem Zrw {a:Bool} {s off:Nat} {cs:List D} {v:AV} (h:U1 a s off cs=some v):∃ d,v=.d d:=by
 unfold U1 at h;split at h
 ·split at h
  ·cases h;exact⟨_,rfl⟩
  ·cases h
 ·unfold asD at h;obtain⟨y,_,h⟩:=Za h;cases h;exact⟨_,rfl⟩
theorem ZpX {x v:AV} (hs:Zea g hp hp' x) {a:Bool} {s:Nat} (h:Vw hp' a s x=some v) (ho:okV v=true):Vw hp a s x=some v∧kill g v=v:=by
 cases x<;>simp only[Vw] at h ⊢ <;> first | (cases h;done) | skip
 case ptr id off=>
  rcases UX (hs id (by simp[Zl,Zo,Zg])) with ⟨_,_,_,_,_,_,e1,e2⟩ | ⟨e1,e2⟩ | ⟨cs,e1,e2⟩ | ⟨e1,e2⟩ | ⟨_,_,_,_,e1,e2⟩
  ·rw[e2] at h;cases h
  ·rw[e2] at h;cases h
  ·rw[e2] at h;rw[e1];exact Zmx h ho
  ·rw[e2] at h;cases h
  ·rw[e2] at h;cases h
 case prow id sz i off=>
  exact(Zd9 (hs id (by simp[Zl,Zo,Zg]))).2 h
 case pim cs=>
  obtain⟨d,rfl⟩:=Zrw h;exact⟨h,rfl⟩
theorem ZfX {x:AV} {d:D} {e:Bool} (h:Uh hp x=some (d,e,[])) (hp' : Hp):Uh hp' x=some (d,e,[]):=by
 cases x<;>simp only[Uh] at h ⊢ <;> first | exact h | skip
 case own id=>obtain⟨q,_,h⟩:=Za h;simp at h
theorem ZfY:∀ {xs:List AV} {d:List D} {e:Bool},YA hp xs=some (d,e,[])→∀ hp' : Hp,YA hp' xs=some (d,e,[])
 | [],d,e,h,hp'=>h
 | x :: xs,d,e,h,hp'=>by
  simp only[YA] at h ⊢;obtain⟨⟨d1,e1,l1⟩,h1,h⟩:=Za h;obtain⟨⟨d2,e2,l2⟩,h2,h⟩:=Za h;have hl:l1=[]∧l2=[]:=by
   simp only at h;split at h
   ·simp only[Option.some.injEq,Prod.mk.injEq,List.append_eq_nil_iff] at h;exact h.2.2
   ·cases h
  obtain⟨rfl,rfl⟩:=hl;rw[ZfX h1 hp',Zc,ZfY h2 hp',Zc];exact h
theorem ZnP {x:AV} {d:D} {e:Bool} (h:give hp x=some (d,e,[])) (hp' : Hp):give hp' x=some (d,e,[]):=by
 cases x<;>simp only[give] at h ⊢ <;> first | exact ZfX h hp' | skip
 case agg cs=>
  obtain⟨⟨d1,e1,l1⟩,h1,h⟩:=Za h;simp only[Option.some.injEq,Prod.mk.injEq] at h;obtain⟨rfl,rfl,rfl⟩:=h;rw[ZfY h1 hp',Zc]
theorem ZcT:∀ {xs:List AV} {d:List D} {e:Bool},Y9 hp xs=some (d,e,[])→∀ hp' : Hp,Y9 hp' xs=some (d,e,[])
 | [],d,e,h,hp'=>h
 | x :: xs,d,e,h,hp'=>by
  simp only[Y9] at h ⊢;obtain⟨⟨d1,e1,l1⟩,h1,h⟩:=Za h;obtain⟨⟨d2,e2,l2⟩,h2,h⟩:=Za h;have hl:l1=[]∧l2=[]:=by
   simp only at h;split at h
   ·simp only[Option.some.injEq,Prod.mk.injEq,List.append_eq_nil_iff] at h;exact h.2.2
   ·cases h
  obtain⟨rfl,rfl⟩:=hl;rw[ZnP h1 hp',Zc,ZcT h2 hp',Zc];exact h
theorem ZcU {base s:Nat} {vs:List AV} {ce:Zb} (h:buildSl hp base s vs=some ce) (hf:ce.eff.frz=[]) (hp' : Hp) :
  buildSl hp' base s vs=some ce∧(ce.eff.val=.nil∨ce.eff.val=.own base)∧(∀ k o,(k,o)∈ce.eff.adds→∃ sz xs e f,o=.row sz xs e f):=by
 cases vs with
 | nil=>simp only[buildSl,Qw] at h ⊢;cases h;exact⟨rfl,.inl rfl,fun k o h=>by simp at h⟩
 | cons v vs=>
  simp only[buildSl] at h ⊢;obtain⟨⟨ds,e,l⟩,h1,h⟩:=Za h;unfold Zqb at h;split at h
  ·rename_i hc;cases h;simp only at hf;subst hf;rw[ZcT h1 hp',Zc];refine⟨?_,.inr rfl,fun k o ho=>?_⟩
   ·unfold Zqb;rw[Ko hc]
   ·simp at ho;obtain⟨rfl,rfl⟩:=ho;exact⟨_,_,_,_,rfl⟩
  ·cases h
end
theorem Zeb {C:Orc} {M:Zh} {sl:Sl} {hp hp' : Hp} {base:Nat} {c:COp} (hc:Y1 c=true):vop C M sl hp base c=vop C M sl hp' base c:=by
 cases c<;>first | rfl | (simp[Y1] at hc)
section
variable {C:Orc} {M:Zh} {sl sl' : Sl} {hp hp' : Hp} {base:Nat} {g:List Nat}
theorem ZQ {v:AV} {ce:Zb} (h:Qw v=some ce):ce.eff.adds=[]:=by cases h;rfl
theorem Qu {v:Option AV} {ce:Zb} (h:Yw v=some ce):ce.eff.adds=[]:=by obtain⟨v,_,h⟩:=Za h;exact ZQ h
theorem WZ {v:Option AV} {ce:Zb} (h:Yw v=some ce):v=some ce.eff.val:=by obtain⟨v,rfl,h⟩:=Za h;cases h;rfl
theorem ZoT {v:Option AV} {ce:Zb} {w:Option AV} (h:Yw v=some ce) (hw:w=some ce.eff.val):Yw w=some ce:=by
 obtain⟨v,rfl,h⟩:=Za h;cases h;rw[hw];rfl
theorem ZnQ {c:COp} (hc:Y1 c=true) (hv:Zn8 c=true) {ce:Zb} (h:vop C M sl hp base c=some ce):ce.eff.adds=[]:=by
 cases c<;>simp only[Y1,Zn8,Ka] at hc hv<;>simp only[vop] at h
 case stuck=>cases h
 case move x=>exact ZQ h
 case pick c a b=>
  unfold ZbO at h;split at h
  ·split at h<;>exact ZQ h
  ·cases h
 case build zs ps=>obtain⟨cs,_,h⟩:=Za h;exact ZQ h
 case nilCheck x=>unfold WE at h;split at h<;>first | exact ZQ h | cases h
 case bin op eq x y=>
  unfold Zid at h;split at h
  ·split at h
   ·exact Qu h
   ·cases h
  ·exact Qu h
 case un op x=>exact Qu h
 case eqA neg n x y=>
  unfold Zlo at h;split at h
  ·obtain⟨r,_,h⟩:=Za h;exact ZQ h
  ·cases h
 case convI k x=>unfold Go.Abs.convI at h;split at h<;>first | exact ZQ h | cases h
 case convS x=>unfold Go.Abs.convS at h;split at h<;>first | exact ZQ h | cases h
 case sliceS x lo hi=>exact Qu h
 case shift off x=>unfold Y0 at h;split at h<;>first | exact ZQ h | cases h
 case part g s off x=>exact Qu h
 case iaA len s x i=>
  obtain⟨n,_,h⟩:=Za h;unfold Zif at h;split at h
  ·unfold Y0 at h;split at h<;>first | exact ZQ h | cases h
  ·cases h
 case ixS x i=>
  obtain⟨n,_,h⟩:=Za h;unfold ZnU at h;split at h
  ·unfold ZmK at h;split at h
   ·obtain⟨b,_,h⟩:=Za h;exact ZQ h
   ·cases h
  ·cases h
 case ixA g s len x i=>
  obtain⟨n,_,h⟩:=Za h;unfold Zqc at h;split at h
  ·exact Qu h
  ·cases h
 case nth i x=>unfold ZmL at h;split at h<;>first | exact Qu h | cases h
 case lenS x=>obtain⟨n,_,h⟩:=Za h;exact ZQ h
 case min x y=>unfold Zf5 at h;split at h<;>first | (split at h<;>first | exact ZQ h | cases h) | cases h
 case max x y=>unfold Zf6 at h;split at h<;>first | (split at h<;>first | exact ZQ h | cases h) | cases h
theorem ZfZ {c:AV} (h:JO c=true):ZE g c=c:=by cases c<;>first | rfl | cases h
theorem ZaF:∀ {cs:List AV},Ym cs=true→∀ c∈cs,JO c=true
 | [],_,c,hc=>by simp at hc
 | x :: l,h,c,hc=>by
  simp only[Ym,Kb] at h;rcases Ke.1 hc with rfl | hc
  ·exact h.1
  ·exact ZaF h.2 c hc
theorem Ze8:∀ (slc:List (Option Nat)) (cs:List AV) (b:Nat),(∀ c∈(mat slc cs b).1,c∈cs∨∃ k o,c=.own k∧(k,o)∈(mat slc cs b).2)∧∀ k o,(k,o)∈(mat slc cs b).2→∃ sz,o=.row sz [] true false
 | [],cs,b=>by simp only[mat];exact⟨fun c hc=>.inl hc,fun k o h=>by simp at h⟩
 | t :: ts,[],b=>by cases t<;>(simp only[mat];exact⟨fun c hc=>.inl hc,fun k o h=>by simp at h⟩)
 | t :: ts,v :: vs,b=>by
  by_cases hv:(∃ sz,t=some sz)∧v=.nil
  ·obtain⟨⟨sz,rfl⟩,rfl⟩:=hv;obtain⟨h1,h2⟩:=Ze8 ts vs (b+1);simp only[mat];refine⟨fun c hc=>?_,fun k o h=>?_⟩
   ·rcases Ke.1 hc with rfl | hc
    ·exact .inr ⟨b,_,rfl,KV ..⟩
    ·rcases h1 c hc with h | ⟨k,o,e,h⟩
     ·exact .inl (Kq _ h)
     ·exact .inr ⟨k,o,e,Kq _ h⟩
   ·rcases Ke.1 h with h | h
    ·cases h;exact⟨_,rfl⟩
    ·exact h2 k o h
  ·obtain⟨h1,h2⟩:=Ze8 ts vs b;have e:mat (t :: ts) (v :: vs) b=(v :: (mat ts vs b).1,(mat ts vs b).2):=by
    cases t with
    | none=>simp[mat]
    | some sz=>cases v<;>first | (exact absurd ⟨⟨sz,rfl⟩,rfl⟩ hv) | simp[mat]
   rw[e];refine⟨fun c hc=>?_,h2⟩;rcases Ke.1 hc with rfl | hc
   ·exact .inl (KV ..)
   ·rcases h1 c hc with h | h
    ·exact .inl (Kq _ h)
    ·exact .inr h
theorem ZjV {base:Nat}:∀ {cs:List AV},Ym cs=true→cs.map (Zdv base)=cs
 | [],_=>rfl
 | c :: cs,h=>by
  simp only[Ym,Kb] at h;rw[Kl,ZjV h.2];congr 1
  cases c<;>first | rfl | (simp[JO] at h)
theorem ZjW:∀ {cs:List AV},Ym cs=true→Xa cs=true
 | [],_=>rfl
 | c :: cs,h=>by
  simp only[Ym,Kb] at h;have:=ZjW h.2;cases c<;>first | exact this | (simp[JO] at h)
theorem Zf0 {slc:List (Option Nat)} {cs:List AV} {ce:Zb} (hb:∀ k,base≤k→k<base+64→k∉g) (hc:Ym cs=true) (h:ZbP slc base cs=some ce) (ad:QD base (base+64) ce.eff.adds=true) :
  (∀ id∈Zl ce.eff.val,id∉g)∧∀ k o,(k,o)∈ce.eff.adds→QU g o=o:=by
 have hr:=V0 ad;unfold ZbP at h;rw[ZjV hc] at h;unfold Zib at h;rw[Kf (by rw[ZjW hc];decide)] at h;split at h
 ·cases h;simp only at hr ⊢;obtain⟨h1,h2⟩:=Ze8 slc cs (base+1);refine⟨fun id aa=>?_,fun k o hm=>?_⟩
  ·simp[Zl,Zo,Zg] at aa;subst aa;exact hb _ (Kg _) (by omega)
  ·rcases Ke.1 hm with hm | hm
   ·cases hm;simp only[QU];congr 1
    rw[KI (g:=id),Lj];intro c ab;rcases h1 c ab with h | ⟨k,o,rfl,h⟩
    ·exact ZfZ (ZaF hc c h)
    ·have:=hr k o (Kq _ h);have hk:=hb k this.1 this.2;simp[ZE,ZT,hk]
   ·obtain⟨sz,rfl⟩:=h2 k o hm;rfl
 ·cases h;simp only at hr ⊢;refine⟨fun id aa=>?_,fun k o hm=>?_⟩
  ·simp[Zl,Zo,Zg] at aa;subst aa;exact hb _ (Kg _) (by omega)
  ·simp at hm;obtain⟨rfl,rfl⟩:=hm;simp only[QU];congr 1
   rw[KI (g:=id),Lj];exact fun c ab=>ZfZ (ZaF hc c ab)
theorem ZpY {c:COp} (hc:Ziw c=true) (he:∀ x∈Zr c,evO sl' x=evO sl x) (hs:∀ x∈Zr c,Zea g hp hp' (evO sl x)) {ce:Zb}
  (hb:∀ k,base≤k→k<base+64→k∉g) (h:vop C M sl hp base c=some ce) (ab:QD base (base+64) ce.eff.adds=true) (ad:ce.eff.frz=[]) (ho:okV ce.eff.val=true) (hk:kill g ce.eff.val=ce.eff.val):vop C M sl' hp' base c=some ce∧∀ k o,(k,o)∈ce.eff.adds→QU g o=o:=by
 rw[QM C M hp' base he];have aa:ce.eff.adds=[]→∀ k o,(k,o)∈ce.eff.adds→QU g o=o:=fun e k o hm=>by rw[e] at hm;simp at hm
 simp only[Ziw,Lk,Kb] at hc;rcases hc with ((hc | hc) | ⟨hc1,hc2⟩) | hc
 ·cases c<;>simp only[Wm,Ka] at hc<;>simp only[vop] at h ⊢ <;> simp only[Zr] at hs
  case load a s x=>exact⟨ZoT h (ZpW (hs x (by simp)) (WZ h) ho hk),aa (Qu h)⟩
  case slice s x lo hi=>
   rw[ZbD (hs x (by simp))];exact⟨h,aa (Qu h)⟩
  case slice0 x hi mx=>
   unfold slice0 at h ⊢;rw[J9 (hs x (by simp))];exact⟨h,aa (Qu h)⟩
  case iaS s x i=>
   obtain⟨n,h1,h⟩:=Za h;rw[h1,Zc];unfold ZcZ at h ⊢;rw[Ub (hs x (by simp))];refine⟨h,aa ?_⟩;split at h
   ·exact Qu h
   ·cases h
  case len x=>
   rw[J9 (hs x (by simp))];refine⟨h,aa ?_⟩;obtain⟨n,_,h⟩:=Za h;exact ZQ h
 ·cases c<;>simp only[Zkd,Ka] at hc
  simp only[vop] at h ⊢;obtain⟨h1,h2,h3⟩:=ZcU h ad hp';refine⟨h1,fun k o hm=>?_⟩;obtain⟨sz,xs,e,f,rfl⟩:=h3 k o hm;rfl
 ·rw[← Zeb (hp:=hp) hc1];exact⟨h,aa (ZnQ hc1 hc2 h)⟩
 ·cases c<;>simp only[ZgP,Ka] at hc
  simp only[vop] at h ⊢;exact⟨h,(Zf0 hb hc h ab).2⟩
theorem ZnR {c:COp} (hc:Zer c=true) (he:∀ x∈Zr c,evO sl' x=evO sl x) (hs:∀ x∈Zr c,Zea g hp hp' (evO sl x)) {ce:Zb}
  (hn:∀ x∈Zr c,∀ id∈Zl (evO sl x),id∉g) (hb:∀ k,base≤k→k<base+64→k∉g)
  (h:vop C M sl' hp' base c=some ce) (ad:QD base (base+64) ce.eff.adds=true) (ae:ce.eff.frz=[]) (ho:okV ce.eff.val=true):vop C M sl hp base c=some ce∧kill g ce.eff.val=ce.eff.val∧∀ k o,(k,o)∈ce.eff.adds→QU g o=o:=by
 rw[QM C M hp' base he] at h;have aa:ce.eff.adds=[]→∀ k o,(k,o)∈ce.eff.adds→QU g o=o:=fun e k o hm=>by rw[e] at hm;simp at hm
 have names:(∀ id∈Zl ce.eff.val,id∉g)→kill g ce.eff.val=ce.eff.val:=ZoS ho;cases c<;>simp only[Zer,Ka] at hc<;>simp only[vop] at h ⊢ <;> simp only[Zr] at hs hn
 case alloc slc cs=>
  obtain⟨h1,h2⟩:=Zf0 hb hc h ad;exact⟨h,names h1,h2⟩
 case buildSl s xs=>
  obtain⟨h1,h2,h3⟩:=ZcU h ae hp;refine⟨h1,names fun id ab=>?_,fun k o hm=>?_⟩
  ·rcases h2 with h2 | h2
   ·rw[h2] at ab;simp[Zl,Zo,Zg] at ab
   ·rw[h2] at ab;simp[Zl,Zo,Zg] at ab;subst ab;exact hb _ (Kg _) (by omega)
  ·obtain⟨sz,xs,e,f,rfl⟩:=h3 k o hm;rfl
 case load a s x=>
  obtain⟨h1,h2⟩:=ZpX (hs x (by simp)) (WZ h) ho;exact⟨ZoT h h1,h2,aa (Qu h)⟩
 case nilCheck x=>
  have hx:=hn x (by simp);refine⟨h,names ?_,aa ?_⟩
  ·unfold WE at h;split at h<;>rename_i hv<;>first | (cases h;done) | (cases h;show ∀ id∈Zl _,_;rw[← hv];exact hx)
  ·unfold WE at h;split at h<;>first | exact ZQ h | cases h
 case bin op eq x y=>
  have hd:∃ d,ce.eff.val=.d d:=by
   have o2:∀ {a b:AV},Yw (vbin op a b)=some ce→∃ d,ce.eff.val=.d d:=fun {a b} h=>by
    have h1:=WZ h;unfold vbin at h1;split at h1
    ·unfold Wz at h1;split at h1
     ·obtain⟨y,_,h1⟩:=Za h1;exact⟨_,(Option.some.inj h1).symm⟩
     ·obtain⟨y,_,h1⟩:=Za h1;exact⟨_,(Option.some.inj h1).symm⟩
     ·split at h1
      ·obtain⟨y,_,h1⟩:=Za h1;have:=Option.some.inj h1;exact⟨_,this.symm⟩
      ·cases h1
    ·obtain⟨y,_,h1⟩:=Za h1;have:=Option.some.inj h1;exact⟨_,this.symm⟩
    ·cases h1
   unfold Zid at h;split at h
   ·split at h
    ·have h1:=WZ h;unfold ZjF at h1;split at h1
     ·exact⟨_,(Option.some.inj h1).symm⟩
     ·exact⟨_,(Option.some.inj h1).symm⟩
     ·cases h1
    ·cases h
   ·exact o2 h
  obtain⟨d,hd⟩:=hd;refine⟨h,by rw[hd];rfl,aa ?_⟩;unfold Zid at h;split at h
  ·split at h
   ·exact Qu h
   ·cases h
  ·exact Qu h
 case un op x=>
  have hd:∃ d,ce.eff.val=.d d:=by
   have h1:=WZ h;unfold vun at h1;split at h1
   ·unfold neg1 at h1;split at h1
    ·exact⟨_,(Option.some.inj h1).symm⟩
    ·cases h1
   ·unfold not1 at h1;split at h1
    ·exact⟨_,(Option.some.inj h1).symm⟩
    ·cases h1
   ·cases h1
  obtain⟨d,hd⟩:=hd;exact⟨h,by rw[hd];rfl,aa (Qu h)⟩
 case convI k x=>
  unfold Go.Abs.convI at h ⊢;split at h
  ·exact⟨h,by cases h;rfl,aa (ZQ h)⟩
  ·cases h
 case shift off x=>
  have hx:=hn x (by simp);refine⟨h,names ?_,aa ?_⟩
  ·unfold Y0 at h;split at h<;>rename_i hv<;>first | (cases h;done) | skip
   ·cases h;rw[hv] at hx;simpa [Zl,Zo,Zg] using hx
   ·cases h;rw[hv] at hx;simpa [Zl,Zo,Zg] using hx
   ·cases h;simp[Zl,Zo,Zg]
  ·unfold Y0 at h;split at h<;>first | exact ZQ h | cases h
 case slice s x lo hi=>
  have hx:=hn x (by simp);rw[ZbD (hs x (by simp))] at h;refine⟨h,names ?_,aa (Qu h)⟩;have h1:=WZ h;cases hv:evO sl x<;>rw[hv] at h1 hx<;>simp only[Yv] at h1<;>first | (cases h1;done) | skip
  case d y=>
   cases y<;>simp only[Yv] at h1<;>first | (cases h1;done) | skip
   split at h1
   ·obtain⟨b,_,h1⟩:=Za h1;rw[← Option.some.inj h1];simp[Zl,Zo,Zg]
   ·cases h1
  case nil=>obtain⟨b,_,h1⟩:=Za h1;rw[← Option.some.inj h1];simp[Zl,Zo,Zg]
  case own id=>
   unfold U4 at h1;split at h1
   ·split at h1
    ·unfold ZmI at h1;split at h1
     ·rw[← Option.some.inj h1];exact hx
     ·obtain⟨b,_,h1⟩:=Za h1;rw[← Option.some.inj h1];simpa [Zl,Zo,Zg] using hx
    ·cases h1
   ·cases h1
  case ownv id off n=>
   unfold WD at h1;split at h1
   ·split at h1
    ·obtain⟨b,_,h1⟩:=Za h1;rw[← Option.some.inj h1];simpa [Zl,Zo,Zg] using hx
    ·cases h1
   ·cases h1
 case sliceS x lo hi=>
  have hd:∃ d,ce.eff.val=.d d:=by
   have h1:=WZ h;unfold sliceS at h1;split at h1
   ·obtain⟨b,_,h1⟩:=Za h1;exact⟨_,(Option.some.inj h1).symm⟩
   ·cases h1
  obtain⟨d,hd⟩:=hd;exact⟨h,by rw[hd];rfl,aa (Qu h)⟩
 case lenS x=>
  obtain⟨n,h1,h⟩:=Za h;refine⟨by rw[h1,Zc];exact h,by cases h;rfl,aa (ZQ h)⟩
 case iaS s x i=>
  have hx:=hn x (by simp);obtain⟨n,h1,h⟩:=Za h;rw[h1,Zc];unfold ZcZ at h ⊢;rw[Ub (hs x (by simp))] at h;refine⟨h,names ?_,aa ?_⟩
  ·split at h
   ·have h1:=WZ h;cases hv:evO sl x<;>rw[hv] at h1 hx<;>simp only[Qh] at h1<;>first | (cases h1;done) | skip
    case d y=>
     cases y<;>simp only[Qh] at h1<;>first | (cases h1;done) | skip
     obtain⟨b,_,h1⟩:=Za h1;unfold Zo1 at h1;split at h1
     ·rw[← Option.some.inj h1];simp[Zl,Zo,Zg]
     ·cases h1
    case own id=>
     unfold Jt at h1;split at h1
     ·split at h1
      ·rw[← Option.some.inj h1];simpa [Zl,Zo,Zg] using hx
      ·cases h1
     ·split at h1
      ·rw[← Option.some.inj h1];simpa [Zl,Zo,Zg] using hx
      ·cases h1
     ·cases h1
    case ownv id off n=>
     unfold U3 at h1;split at h1
     ·split at h1
      ·rw[← Option.some.inj h1];simpa [Zl,Zo,Zg] using hx
      ·cases h1
     ·cases h1
   ·cases h
  ·split at h
   ·exact Qu h
   ·cases h
 case len x=>
  rw[J9 (hs x (by simp))] at h;obtain⟨n,h1,h2⟩:=Za h;exact⟨h,by cases h2;rfl,aa (ZQ h2)⟩
end
end Go.Abs
