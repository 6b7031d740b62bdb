/- Own text. -/
import Derived.Test.YtdhgppkldoopaaaGreatAbsDraw3
import Derived.Test.YtdhgppkldoopaaaGreatAbsSound5
set_option linter.unusedVariables false
set_option linter.unusedSimpArgs false
namespace Go.Abs
open Go
theorem Zwi {v:AV} (h:okC v=true):okV v=true:=by
 cases v<;>first | exact h | cases h
theorem ZlM {g:List Nat} {v:AV} (h:okC (Qa g v)=true):Qa g v=v:=by
 cases v<;>simp only[Qa] at h ⊢ <;> first | rfl | (split at h<;>rename_i h' <;> first | (cases h;done) | rw[Kj h'])
theorem Zjp {g:List Nat}:∀ {cs:List AV},ZsY (cs.map (Qa g))=true→cs.map (Qa g)=cs
 | [],_=>rfl
 | c :: cs,h=>by
  simp only[Kp,ZsY,Kd] at h ⊢;rw[ZlM h.1,Zjp h.2]
theorem ZdC {g:List Nat} {v:AV} (h:okV (ZR g v)=true):ZR g v=v:=by
 cases v with
 | agg cs=>simp only[ZR,okV] at h ⊢;rw[Zjp h]
 | clo f cs=>simp only[ZR,okV,okC] at h;cases h
 | tup vs=>rfl
 | _=>
  simp only[ZR] at h ⊢;refine ZlM ?_;revert h;simp only[Qa]
  first | exact id | (split<;>first | exact id | (intro h;cases h))
theorem ZbM {g:List Nat} {v:AV} (h:okV (kill g v)=true):kill g v=v:=by
 cases v with
 | tup vs=>
  cases vs with
  | nil=>rfl
  | cons x r=>simp only[kill,Kp,okV,okC] at h;cases h
 | _=>simp only[kill] at h ⊢;exact ZdC h
theorem Zt6 {g:List Nat} {v:AV} (hn:∀ id∈Zl v,id∉g):Qa g v=v:=by
 cases v<;>simp only[Qa]<;>first | rfl | (rw[Kj];simpa [Zl] using hn)
theorem Zwj {g:List Nat} {v:AV} (h:okV v=true) (hn:∀ id∈Zx v,id∉g):kill g v=v:=by
 cases v with
 | tup vs=>
  cases vs with
  | nil=>rfl
  | cons x r=>simp only[okV,okC] at h;cases h
 | clo f cs=>simp only[okV,okC] at h;cases h
 | agg cs=>
  simp only[kill,ZR];congr 1
  rw[KH (g:=id),LA];intro c hc;exact Zt6 fun id aa=>hn id (by simp only[Zx,Zz,Kq];exact⟨c,hc,aa⟩)
 | _=>simp only[kill,ZR];exact Zt6 hn
theorem ZyM {g:List Nat} {v:AV} (h:kill g v=v):∀ id∈Zx v,id∉g:=fun id aa=>(Zq9 g v id (by rw[h];exact aa)).2
theorem Zw9 {g:List Nat} {c:AV} (h:okC c=true) (h1:Qa g c=c):ZR g c=c:=by
 cases c<;>simp only[ZR]<;>first | exact h1 | cases h
def ZbN (g:List Nat):Option Zn→Option Zn→Prop
 | none,none=>True
 | some (.row s xs _ _),some (.row s' xs' _ _)=>s'=s∧xs'=xs
 | some (.box cs),some (.box cs')=>cs'=cs.map (ZR g)
 | some (.tree s n xs l),some (.tree s' n' xs' l')=>s'=s∧n'=n∧xs'=xs∧l'=V7 g l
 | some .gone,some .gone=>True
 | _,_=>False
theorem Zt7 {g:List Nat} {b:Bool} (o:Option Zn):ZbN g o ((o.map (Q8 g)).map fun o=>if b then Y4 o else o):=by
 cases o with
 | none=>trivial
 | some o=>cases o<;>cases b<;>exact(by first | exact⟨rfl,rfl⟩ | exact rfl | exact⟨rfl,rfl,rfl,rfl⟩ | exact trivial)
theorem Zrl {g:List Nat}:∀ {l:List AV} {ds:List D},Zex l=some ds→l.map (ZR g)=l
 | [],ds,_=>rfl
 | v :: l,ds,h=>by
  simp only[Zex] at h;obtain⟨x,h1,h⟩:=Za h;obtain⟨aa,h2,h⟩:=Za h;have:ZR g v=v:=by cases v<;>first | rfl | cases h1
  rw[Kp,this,Zrl h2]
theorem Zph {g:List Nat}:∀ {l:List AV} {ds:List D},Zex (l.map (ZR g))=some ds→l.map (ZR g)=l
 | [],ds,_=>rfl
 | v :: l,ds,h=>by
  simp only[Kp,Zex] at h;obtain⟨x,h1,h⟩:=Za h;obtain⟨aa,h2,h⟩:=Za h;have hv:ZR g v=v:=by
   refine ZdC ?_;cases hk:ZR g v<;>rw[hk] at h1<;>first | rfl | cases h1
  rw[Kp,hv,Zph h2]
theorem ZgD (l:List AV):(∃ ds,Zex l=some ds∧Jh l=.d (.agg ds))∨(Zex l=none∧(Jh l=.junk∨Jh l=.agg l)):=by
 unfold Jh;cases h:Zex l with
 | some ds=>exact .inl ⟨ds,rfl,rfl⟩
 | none=>
  refine .inr ⟨rfl,?_⟩;unfold W7;split
  ·rename_i h;cases h
  ·split
   ·exact .inl rfl
   ·exact .inr rfl
theorem ZkH:∀ {l:List AV},ZsY l=true→∀ c∈l,okC c=true
 | [],_,c,hc=>by simp at hc
 | x :: l,h,c,hc=>by
  simp only[ZsY,Kd] at h;rcases Kf.1 hc with rfl | hc
  ·exact h.1
  ·exact ZkH h.2 c hc
theorem Zxa {g:List Nat} {l:List AV} (h:okV (Jh l)=true) (hk:kill g (Jh l)=Jh l):l.map (ZR g)=l:=by
 rcases ZgD l with ⟨ds,h1,h2⟩ | ⟨h1,h2 | h2⟩
 ·exact Zrl h1
 ·rw[h2] at h;cases h
 ·rw[h2] at h hk;simp only[kill,ZR,AV.agg.injEq] at hk;simp only[okV] at h;have hm:=ZkH h;have aa : ∀ c∈l,Qa g c=c:=by
   intro c hc;have:=Zjp (g:=g) (cs:=l) (by rw[hk];exact h);exact ZlM (by
    have h3:Qa g c∈l.map (Qa g):=Kaj hc;rw[hk] at h3;exact hm _ h3)
  rw[KH (g:=id),LA];intro c hc;exact Zw9 (hm c hc) (aa c hc)
theorem Zxb {g:List Nat} {l:List AV} (h:okV (Jh (l.map (ZR g)))=true):l.map (ZR g)=l:=by
 rcases ZgD (l.map (ZR g)) with ⟨ds,h1,h2⟩ | ⟨h1,h2 | h2⟩
 ·exact Zph h1
 ·rw[h2] at h;cases h
 ·rw[h2] at h;simp only[okV] at h;have hm:=ZkH h;rw[KH (g:=id),LA];intro c hc;exact ZdC (Zwi (hm _ (Kaj hc)))
theorem Zvl {g:List Nat} {v:AV} (h:okV v=true) (hk:kill g v=v):ZR g v=v:=by
 cases v with
 | tup vs=>rfl
 | _=>simp only[kill] at hk;exact hk
theorem Zvm {g:List Nat} {v:AV} (h:okV v=true) (hk:ZR g v=v):kill g v=v:=by
 cases v with
 | tup vs=>
  cases vs with
  | nil=>rfl
  | cons x r=>simp only[okV,okC] at h;cases h
 | _=>simp only[kill];exact hk
theorem ZiI {α β:Type} (f:α→β) (l:List α) (a b:Nat):((l.map f).drop a).take b=((l.drop a).take b).map f:=by
 rw[← List.map_drop,← List.map_take]
theorem ZmW (g:List Nat) (c:AV):ZkM (ZR g c)=ZR g (ZkM c):=by
 have aa:∀ v:AV,(∀ a b,v≠.bbuf a b)→ZkM v=v:=fun v h'=>by cases v<;>first | rfl | exact absurd rfl (h' _ _)
 by_cases h' : ∃ a b,c=.bbuf a b
 ·obtain⟨a,b,rfl⟩:=h';rfl
 ·have h2:∀ a b,c≠.bbuf a b:=fun a b e=>h' ⟨a,b,e⟩;rw[aa c h2,aa];exact fun a b e=>h2 a b ((Ui g c a b).1 e)
theorem Zt8 {g:List Nat} {cs:List AV} {a:Bool} {s off:Nat} {v:AV} (h:Zae a s off (some (.box cs))=some v) (ho:okV v=true) (hk:kill g v=v):Zae a s off (some (.box (cs.map (ZR g))))=some v:=by
 unfold Zae at h ⊢;cases a with
 | true=>
  simp only[Kn] at h ⊢;split at h
  ·rename_i hl;cases h;rw[Kl (by simpa using hl),ZiI,Zxa ho hk]
  ·cases h
 | false=>
  simp only[Kc,Ko] at h ⊢;obtain⟨c,hc,rfl⟩:=Option.map_eq_some_iff.1 h;rw[Lj,hc];simp only[KV];rw[ZmW,Zvl ho hk]
theorem Zt9 {g:List Nat} {cs:List AV} {a:Bool} {s off:Nat} {v:AV} (h:Zae a s off (some (.box (cs.map (ZR g))))=some v) (ho:okV v=true):Zae a s off (some (.box cs))=some v∧kill g v=v:=by
 unfold Zae at h ⊢;cases a with
 | true=>
  simp only[Kn] at h ⊢;split at h
  ·rename_i hl;cases h;rw[ZiI] at ho ⊢;have he:=Zxb ho;rw[he] at ho ⊢;refine⟨by rw[Kl (by simpa using hl)],?_⟩;rcases ZgD ((cs.drop off).take s) with ⟨ds,h1,h2⟩ | ⟨h1,h2 | h2⟩
   ·rw[h2];rfl
   ·rw[h2] at ho;cases ho
   ·rw[h2] at ho ⊢;simp only[okV] at ho;have hm:=ZkH ho;simp only[kill,ZR,AV.agg.injEq];rw[KH (g:=id),LA];intro c hc;have h3:ZR g c=c:=by
     refine ZdC ?_;have h4:ZR g c∈((cs.drop off).take s).map (ZR g):=Kaj hc;rw[he] at h4;exact Zwi (hm _ h4)
    have:=hm c hc;cases c<;>first | exact h3 | cases this
  ·cases h
 | false=>
  simp only[Kc,Ko] at h ⊢;rw[Lj] at h;cases hc:cs[off]? with
  | none=>rw[hc] at h;cases h
  | some c=>
   rw[hc] at h;simp only[KV,Option.some.injEq] at h;rw[ZmW] at h;have h3:ZR g (ZkM c)=ZkM c:=ZdC (by rw[h];exact ho);rw[h3] at h;subst h;exact⟨rfl,Zvm ho h3⟩
theorem Zvn {g:List Nat} {o o' : Option Zn} (h:ZbN g o o'):Wy o'=Wy o:=by
 cases o with
 | none=>cases o' with
  | none=>rfl
  | some o'=>cases h
 | some o=>cases o' with
  | none=>cases o<;>cases h
  | some o' =>
   have tr:∀ s n xs l,Wy (some (.tree s n xs (V7 g l)))=Wy (some (.tree s n xs l)):=by
    intro s n xs l;rcases l with _ | ⟨_ | nm,_⟩
    ·rfl
    ·rfl
    ·simp only[V7];split<;>rfl
   cases o<;>cases o' <;> simp only[ZbN] at h<;>first | (cases h;done) | rfl | (obtain⟨rfl,rfl⟩:=h;rfl) | (obtain⟨rfl,rfl,rfl,rfl⟩:=h;exact tr _ _ _ _)
theorem ZbO {g:List Nat} {o o' : Option Zn} (h:ZbN g o o'):(∃ s xs e f e' f',o=some (.row s xs e f)∧o'=some (.row s xs e' f'))∨(o=none∧o'=none)∨(∃ cs,o=some (.box cs)∧o'=some (.box (cs.map (ZR g))))∨(o=some .gone∧o'=some .gone)∨(∃ s n xs l,o=some (.tree s n xs l)∧o'=some (.tree s n xs (V7 g l))):=by
 cases o with
 | none=>cases o' with
  | none=>exact .inr (.inl ⟨rfl,rfl⟩)
  | some o'=>cases h
 | some o=>cases o' with
  | none=>cases o<;>cases h
  | some o' =>
   cases o with
   | box cs=>cases o' with
    | box cs'=>simp only[ZbN] at h;subst h;exact .inr (.inr (.inl ⟨cs,rfl,rfl⟩))
    | row _ _ _ _=>cases h
    | gone=>cases h
    | tree _ _ _ _=>cases h
   | row s xs e f=>cases o' with
    | box cs'=>cases h
    | row s' xs' e' f'=>simp only[ZbN] at h;obtain⟨rfl,rfl⟩:=h;exact .inl ⟨_,_,_,_,_,_,rfl,rfl⟩
    | gone=>cases h
    | tree _ _ _ _=>cases h
   | gone=>cases o' with
    | box cs'=>cases h
    | row _ _ _ _=>cases h
    | gone=>exact .inr (.inr (.inr (.inl ⟨rfl,rfl⟩)))
    | tree _ _ _ _=>cases h
   | tree s n xs l=>cases o' with
    | box cs'=>cases h
    | row _ _ _ _=>cases h
    | gone=>cases h
    | tree s' n' xs' l'=>simp only[ZbN] at h;obtain⟨rfl,rfl,rfl,rfl⟩:=h;exact .inr (.inr (.inr (.inr ⟨_,_,_,_,rfl,rfl⟩)))
section
variable {g:List Nat} {o o' : Option Zn}
theorem ZsC (h:ZbN g o o') (sz id n:Nat):Zct sz id n o'=Zct sz id n o:=by
 rcases ZbO h with ⟨s,xs,e,f,e',f',rfl,rfl⟩ | ⟨rfl,rfl⟩ | ⟨cs,rfl,rfl⟩ | ⟨rfl,rfl⟩ | ⟨s,n,xs,l,rfl,rfl⟩<;>rfl
theorem ZqI (h:ZbN g o o') (sz id off m n:Nat):ZbT sz id off m n o'=ZbT sz id off m n o:=by
 rcases ZbO h with ⟨s,xs,e,f,e',f',rfl,rfl⟩ | ⟨rfl,rfl⟩ | ⟨cs,rfl,rfl⟩ | ⟨rfl,rfl⟩ | ⟨s,n,xs,l,rfl,rfl⟩<;>rfl
theorem ZqJ (h:ZbN g o o') (s id:Nat) (lo hi:Option AV):ZbU s id lo hi o'=ZbU s id lo hi o:=by
 rcases ZbO h with ⟨s,xs,e,f,e',f',rfl,rfl⟩ | ⟨rfl,rfl⟩ | ⟨cs,rfl,rfl⟩ | ⟨rfl,rfl⟩ | ⟨s,n,xs,l,rfl,rfl⟩<;>rfl
theorem Zpi (h:ZbN g o o') (s id off n:Nat) (lo hi:Option AV):JX s id off n lo hi o'=JX s id off n lo hi o:=by
 rcases ZbO h with ⟨s,xs,e,f,e',f',rfl,rfl⟩ | ⟨rfl,rfl⟩ | ⟨cs,rfl,rfl⟩ | ⟨rfl,rfl⟩ | ⟨s,n,xs,l,rfl,rfl⟩<;>rfl
theorem ZsD {i off:Nat} {l:Option (Option Nat×Nat×Nat)} {x:D} {v:AV} (h:Jn i off l x=some v) (hk:kill g v=v):Jn i off (V7 g l) x=some v:=by
 unfold Jn at h ⊢;split at h
 ·unfold Zm4 at h;split at h
  ·rename_i nm i' c;split at h
   ·rename_i hc;cases h;have:g.contains nm=false:=by
     cases hg:g.contains nm with
     | false=>rfl
     | true=>simp only[kill,ZR,Qa,hg,Kn] at hk;cases hk
    simp only[V7,this,Kc,Ko,Zm4,hc,and_self,Kn]
   ·cases h
  ·cases h
 ·exact h
 ·cases h
theorem ZsE {i off:Nat} {l:Option (Option Nat×Nat×Nat)} {x:D} {v:AV} (h:Jn i off (V7 g l) x=some v):Jn i off l x=some v∧kill g v=v:=by
 unfold Jn at h ⊢;split at h
 ·unfold Zm4 at h;split at h
  ·rename_i nm i' c hl;split at h
   ·rename_i hc;cases h;unfold V7 at hl;split at hl
    ·rename_i ab q;split at hl
     ·cases hl
     ·rename_i hg;cases hl;simp only[LH] at hg;exact⟨by simp only[Zm4,hc,and_self,Kn],by simp only[kill,ZR,Qa,hg,Kc,Ko]⟩
    ·rename_i aa;subst hl;exact absurd rfl (aa _ _)
   ·cases h
  ·cases h
 ·split at h
  ·rename_i hp;cases h;exact⟨by rw[Kl hp],rfl⟩
  ·cases h
 ·cases h
theorem ZkI {id:Nat} (h:ZbN g o o') {a:Bool} {s sz i off:Nat} {v:AV}:(Jo id a s sz i off o=some v→kill g v=v→Jo id a s sz i off o'=some v)∧(Jo id a s sz i off o'=some v→Jo id a s sz i off o=some v∧kill g v=v):=by
 have aa:∀ {cs:List D},ZbR a s off cs=some v→∃ d,v=.d d:=by
  intro cs h;unfold ZbR at h;split at h
  ·split at h
   ·cases h;exact⟨_,rfl⟩
   ·cases h
  ·unfold asD at h;obtain⟨y,_,h⟩:=Za h;cases h;exact⟨_,rfl⟩
 rcases ZbO h with ⟨s,xs,e,f,e',f',rfl,rfl⟩ | ⟨rfl,rfl⟩ | ⟨cs,rfl,rfl⟩ | ⟨rfl,rfl⟩ | ⟨s,n,xs,l,rfl,rfl⟩
 ·refine⟨fun h _=>h,fun h=>⟨h,?_⟩⟩;simp only[Jo] at h;split at h
  ·obtain⟨x,_,h⟩:=Za h;unfold ZkN at h;split at h
   ·obtain⟨d,rfl⟩:=aa h;rfl
   ·cases h
  ·cases h
 ·exact⟨fun h _=>(by cases h),fun h=>(by cases h)⟩
 ·exact⟨fun h _=>(by cases h),fun h=>(by cases h)⟩
 ·exact⟨fun h _=>(by cases h),fun h=>(by cases h)⟩
 ·simp only[Jo];split
  ·split
   ·exact⟨fun h _=>(by cases h),fun h=>(by cases h)⟩
   ·constructor
    ·intro hh hk;obtain⟨x,h1,hh⟩:=Za hh;rw[h1,Zg];exact ZsD hh hk
    ·intro hh;obtain⟨x,h1,hh⟩:=Za hh;rw[h1,Zg];exact ZsE hh
  ·exact⟨fun h _=>(by cases h),fun h=>(by cases h)⟩
end
section
variable {hp hp' : Hp} {g:List Nat}
def ZkJ (g:List Nat) (hp hp' : Hp) (v:AV):Prop:=∀ k∈Zx v,ZbN g (lkp hp k) (lkp hp' k)
theorem ZdD {v:AV} (h:ZkJ g hp hp' v):Zc5 hp' v=Zc5 hp v:=by
 cases v<;>simp only[Zc5]
 case d x=>cases x<;>rfl
 case own id=>rw[Zvn (h id (by simp[Zx,Zz,Zl]))]
theorem ZaG {v:AV} (h:ZkJ g hp hp' v) (sz n:Nat):Qt hp' sz n v=Qt hp sz n v:=by
 cases v<;>simp only[Qt]
 case d x=>cases x<;>rfl
 case own id=>rw[ZsC (h id (by simp[Zx,Zz,Zl]))]
 case ownv id off n=>rw[ZqI (h id (by simp[Zx,Zz,Zl]))]
theorem ZgE {v:AV} (h:ZkJ g hp hp' v) (s:Nat) (lo hi:Option AV):Vx hp' s lo hi v=Vx hp s lo hi v:=by
 cases v<;>simp only[Vx]
 case d x=>cases x<;>rfl
 case own id=>rw[ZqJ (h id (by simp[Zx,Zz,Zl]))]
 case ownv id off n=>rw[Zpi (h id (by simp[Zx,Zz,Zl]))]
theorem Zxc {x v:AV} (hs:ZkJ g hp hp' x) {a:Bool} {s:Nat} (h:W2 hp a s x=some v) (ho:okV v=true) (hk:kill g v=v):W2 hp' a s x=some v:=by
 cases x<;>simp only[W2] at h ⊢ <;> first | (cases h;done) | skip
 case ptr id off=>
  rcases ZbO (hs id (by simp[Zx,Zz,Zl])) with ⟨_,_,_,_,_,_,e1,e2⟩ | ⟨e1,e2⟩ | ⟨cs,e1,e2⟩ | ⟨e1,e2⟩ | ⟨_,_,_,_,e1,e2⟩
  ·rw[e1] at h;cases h
  ·rw[e1] at h;cases h
  ·rw[e1] at h;rw[e2];exact Zt8 h ho hk
  ·rw[e1] at h;cases h
  ·rw[e1] at h;cases h
 case prow id sz i off=>exact(ZkI (hs id (by simp[Zx,Zz,Zl]))).1 h hk
 case pim cs=>exact h
theorem ZyN {a:Bool} {s off:Nat} {cs:List D} {v:AV} (h:ZbR a s off cs=some v):∃ d,v=.d d:=by
 unfold ZbR at h;split at h
 ·split at h
  ·cases h;exact⟨_,rfl⟩
  ·cases h
 ·unfold asD at h;obtain⟨y,_,h⟩:=Za h;cases h;exact⟨_,rfl⟩
theorem Zxd {x v:AV} (hs:ZkJ g hp hp' x) {a:Bool} {s:Nat} (h:W2 hp' a s x=some v) (ho:okV v=true):W2 hp a s x=some v∧kill g v=v:=by
 cases x<;>simp only[W2] at h ⊢ <;> first | (cases h;done) | skip
 case ptr id off=>
  rcases ZbO (hs id (by simp[Zx,Zz,Zl])) with ⟨_,_,_,_,_,_,e1,e2⟩ | ⟨e1,e2⟩ | ⟨cs,e1,e2⟩ | ⟨e1,e2⟩ | ⟨_,_,_,_,e1,e2⟩
  ·rw[e2] at h;cases h
  ·rw[e2] at h;cases h
  ·rw[e2] at h;rw[e1];exact Zt9 h ho
  ·rw[e2] at h;cases h
  ·rw[e2] at h;cases h
 case prow id sz i off=>
  exact(ZkI (hs id (by simp[Zx,Zz,Zl]))).2 h
 case pim cs=>
  obtain⟨d,rfl⟩:=ZyN h;exact⟨h,rfl⟩
theorem ZmX {x:AV} {d:D} {e:Bool} (h:ZaO hp x=some (d,e,[])) (hp' : Hp):ZaO hp' x=some (d,e,[]):=by
 cases x<;>simp only[ZaO] at h ⊢ <;> first | exact h | skip
 case own id=>obtain⟨q,_,h⟩:=Za h;simp at h
theorem ZmY:∀ {xs:List AV} {d:List D} {e:Bool},VE hp xs=some (d,e,[])→∀ hp' : Hp,VE hp' xs=some (d,e,[])
 | [],d,e,h,hp'=>h
 | x :: xs,d,e,h,hp'=>by
  simp only[VE] at h ⊢;obtain⟨⟨d1,e1,l1⟩,h1,h⟩:=Za h;obtain⟨⟨d2,e2,l2⟩,h2,h⟩:=Za h;have hl:l1=[]∧l2=[]:=by
   simp only at h;split at h
   ·simp only[Option.some.injEq,Prod.mk.injEq,LZ] at h;exact h.2.2
   ·cases h
  obtain⟨rfl,rfl⟩:=hl;rw[ZmX h1 hp',Zg,ZmY h2 hp',Zg];exact h
theorem Zvo {x:AV} {d:D} {e:Bool} (h:give hp x=some (d,e,[])) (hp' : Hp):give hp' x=some (d,e,[]):=by
 cases x<;>simp only[give] at h ⊢ <;> first | exact ZmX h hp' | skip
 case agg cs=>
  obtain⟨⟨d1,e1,l1⟩,h1,h⟩:=Za h;simp only[Option.some.injEq,Prod.mk.injEq] at h;obtain⟨rfl,rfl,rfl⟩:=h;rw[ZmY h1 hp',Zg]
theorem ZiJ:∀ {xs:List AV} {d:List D} {e:Bool},Wz hp xs=some (d,e,[])→∀ hp' : Hp,Wz hp' xs=some (d,e,[])
 | [],d,e,h,hp'=>h
 | x :: xs,d,e,h,hp'=>by
  simp only[Wz] at h ⊢;obtain⟨⟨d1,e1,l1⟩,h1,h⟩:=Za h;obtain⟨⟨d2,e2,l2⟩,h2,h⟩:=Za h;have hl:l1=[]∧l2=[]:=by
   simp only at h;split at h
   ·simp only[Option.some.injEq,Prod.mk.injEq,LZ] at h;exact h.2.2
   ·cases h
  obtain⟨rfl,rfl⟩:=hl;rw[Zvo h1 hp',Zg,ZiJ h2 hp',Zg];exact h
theorem ZiK {base s:Nat} {vs:List AV} {ce:Ze} (h:buildSl hp base s vs=some ce) (hf:ce.eff.frz=[]) (hp' : Hp) :
  buildSl hp' base s vs=some ce∧(ce.eff.val=.nil∨ce.eff.val=.own base)∧(∀ k o,(k,o)∈ce.eff.adds→∃ sz xs e f,o=.row sz xs e f):=by
 cases vs with
 | nil=>simp only[buildSl,QJ] at h ⊢;cases h;exact⟨rfl,.inl rfl,fun k o h=>by simp at h⟩
 | cons v vs=>
  simp only[buildSl] at h ⊢;obtain⟨⟨ds,e,l⟩,h1,h⟩:=Za h;unfold Zxr at h;split at h
  ·rename_i hc;cases h;simp only at hf;subst hf;rw[ZiJ h1 hp',Zg];refine⟨?_,.inr rfl,fun k o ho=>?_⟩
   ·unfold Zxr;rw[Kl hc]
   ·simp at ho;obtain⟨rfl,rfl⟩:=ho;exact⟨_,_,_,_,rfl⟩
  ·cases h
end
theorem ZkK {C:Orc} {M:Zm} {sl:Sl} {hp hp' : Hp} {base:Nat} {c:COp} (hc:Wg c=true):vop C M sl hp base c=vop C M sl hp' base c:=by
 cases c<;>first | rfl | (simp[Wg] at hc)
section
variable {C:Orc} {M:Zm} {sl sl' : Sl} {hp hp' : Hp} {base:Nat} {g:List Nat}
theorem Z8 {v:AV} {ce:Ze} (h:QJ v=some ce):ce.eff.adds=[]:=by cases h;rfl
theorem QI {v:Option AV} {ce:Ze} (h:Vy v=some ce):ce.eff.adds=[]:=by obtain⟨v,_,h⟩:=Za h;exact Z8 h
theorem Zax {v:Option AV} {ce:Ze} (h:Vy v=some ce):v=some ce.eff.val:=by obtain⟨v,rfl,h⟩:=Za h;cases h;rfl
theorem Zwk {v:Option AV} {ce:Ze} {w:Option AV} (h:Vy v=some ce) (hw:w=some ce.eff.val):Vy w=some ce:=by
 obtain⟨v,rfl,h⟩:=Za h;cases h;rw[hw];rfl
theorem Zvp {c:COp} (hc:Wg c=true) (hv:ZvI c=true) {ce:Ze} (h:vop C M sl hp base c=some ce):ce.eff.adds=[]:=by
 cases c<;>simp only[Wg,ZvI,Kc] at hc hv<;>simp only[vop] at h
 case stuck=>cases h
 case move x=>exact Z8 h
 case pick c a b=>
  unfold ZgR at h;split at h
  ·split at h<;>exact Z8 h
  ·cases h
 case build zs ps=>obtain⟨cs,_,h⟩:=Za h;exact Z8 h
 case nilCheck x=>unfold JY at h;split at h<;>first | exact Z8 h | cases h
 case bin op eq x y=>
  unfold Zpv at h;split at h
  ·split at h
   ·exact QI h
   ·cases h
  ·exact QI h
 case un op x=>exact QI h
 case eqA neg n x y=>
  unfold ZsN at h;split at h
  ·obtain⟨r,_,h⟩:=Za h;exact Z8 h
  ·cases h
 case convI k x=>unfold Go.Abs.convI at h;split at h<;>first | exact Z8 h | cases h
 case convS x=>unfold Go.Abs.convS at h;split at h<;>first | exact Z8 h | cases h
 case sliceS x lo hi=>exact QI h
 case shift off x=>unfold Wf at h;split at h<;>first | exact Z8 h | cases h
 case part g s off x=>exact QI h
 case iaA len s x i=>
  obtain⟨n,_,h⟩:=Za h;unfold Zpx at h;split at h
  ·unfold Wf at h;split at h<;>first | exact Z8 h | cases h
  ·cases h
 case ixS x i=>
  obtain⟨n,_,h⟩:=Za h;unfold Zvt at h;split at h
  ·unfold Zum at h;split at h
   ·obtain⟨b,_,h⟩:=Za h;exact Z8 h
   ·cases h
  ·cases h
 case ixA g s len x i=>
  obtain⟨n,_,h⟩:=Za h;unfold Zxs at h;split at h
  ·exact QI h
  ·cases h
 case nth i x=>unfold Zun at h;split at h<;>first | exact QI h | cases h
 case lenS x=>obtain⟨n,_,h⟩:=Za h;exact Z8 h
 case min x y=>unfold Zm5 at h;split at h<;>first | (split at h<;>first | exact Z8 h | cases h) | cases h
 case max x y=>unfold Zm6 at h;split at h<;>first | (split at h<;>first | exact Z8 h | cases h) | cases h
theorem ZmZ {c:AV} (h:Zde c=true):ZR g c=c:=by cases c<;>first | rfl | cases h
theorem ZeE:∀ {cs:List AV},Vd cs=true→∀ c∈cs,Zde c=true
 | [],_,c,hc=>by simp at hc
 | x :: l,h,c,hc=>by
  simp only[Vd,Kd] at h;rcases Kf.1 hc with rfl | hc
  ·exact h.1
  ·exact ZeE h.2 c hc
theorem ZlN:∀ (slc:List (Option Nat)) (cs:List AV) (b:Nat),(∀ c∈(mat slc cs b).1,c∈cs∨∃ k o,c=.own k∧(k,o)∈(mat slc cs b).2)∧∀ k o,(k,o)∈(mat slc cs b).2→∃ sz,o=.row sz [] true false
 | [],cs,b=>by simp only[mat];exact⟨fun c hc=>.inl hc,fun k o h=>by simp at h⟩
 | t :: ts,[],b=>by cases t<;>(simp only[mat];exact⟨fun c hc=>.inl hc,fun k o h=>by simp at h⟩)
 | t :: ts,v :: vs,b=>by
  by_cases hv:(∃ sz,t=some sz)∧v=.nil
  ·obtain⟨⟨sz,rfl⟩,rfl⟩:=hv;obtain⟨h1,h2⟩:=ZlN ts vs (b+1);simp only[mat];refine⟨fun c hc=>?_,fun k o h=>?_⟩
   ·rcases Kf.1 hc with rfl | hc
    ·exact .inr ⟨b,_,rfl,Lg ..⟩
    ·rcases h1 c hc with h | ⟨k,o,e,h⟩
     ·exact .inl (Kr _ h)
     ·exact .inr ⟨k,o,e,Kr _ h⟩
   ·rcases Kf.1 h with h | h
    ·cases h;exact⟨_,rfl⟩
    ·exact h2 k o h
  ·obtain⟨h1,h2⟩:=ZlN ts vs b;have e:mat (t :: ts) (v :: vs) b=(v :: (mat ts vs b).1,(mat ts vs b).2):=by
    cases t with
    | none=>simp[mat]
    | some sz=>cases v<;>first | (exact absurd ⟨⟨sz,rfl⟩,rfl⟩ hv) | simp[mat]
   rw[e];refine⟨fun c hc=>?_,h2⟩;rcases Kf.1 hc with rfl | hc
   ·exact .inl (Lg ..)
   ·rcases h1 c hc with h | h
    ·exact .inl (Kr _ h)
    ·exact .inr h
theorem Zrm {base:Nat}:∀ {cs:List AV},Vd cs=true→cs.map (Zjr base)=cs
 | [],_=>rfl
 | c :: cs,h=>by
  simp only[Vd,Kd] at h;rw[Kp,Zrm h.2];congr 1
  cases c<;>first | rfl | (simp[Zde] at h)
theorem Zrn:∀ {cs:List AV},Vd cs=true→XA cs=true
 | [],_=>rfl
 | c :: cs,h=>by
  simp only[Vd,Kd] at h;have:=Zrn h.2;cases c<;>first | exact this | (simp[Zde] at h)
theorem Zm0 {slc:List (Option Nat)} {cs:List AV} {ce:Ze} (hb:∀ k,base≤k→k<base+64→k∉g) (hc:Vd cs=true) (h:ZgS slc base cs=some ce) (ad:QP base (base+64) ce.eff.adds=true) :
  (∀ id∈Zx ce.eff.val,id∉g)∧∀ k o,(k,o)∈ce.eff.adds→Q8 g o=o:=by
 have hr:=UB ad;unfold ZgS at h;rw[Zrm hc] at h;unfold Zpt at h;rw[Kj (by rw[Zrn hc];decide)] at h;split at h
 ·cases h;simp only at hr ⊢;obtain⟨h1,h2⟩:=ZlN slc cs (base+1);refine⟨fun id aa=>?_,fun k o hm=>?_⟩
  ·simp[Zx,Zz,Zl] at aa;subst aa;exact hb _ (Kk _) (by omega)
  ·rcases Kf.1 hm with hm | hm
   ·cases hm;simp only[Q8];congr 1
    rw[KH (g:=id),LA];intro c ab;rcases h1 c ab with h | ⟨k,o,rfl,h⟩
    ·exact ZmZ (ZeE hc c h)
    ·have:=hr k o (Kr _ h);have hk:=hb k this.1 this.2;simp[ZR,Qa,hk]
   ·obtain⟨sz,rfl⟩:=h2 k o hm;rfl
 ·cases h;simp only at hr ⊢;refine⟨fun id aa=>?_,fun k o hm=>?_⟩
  ·simp[Zx,Zz,Zl] at aa;subst aa;exact hb _ (Kk _) (by omega)
  ·simp at hm;obtain⟨rfl,rfl⟩:=hm;simp only[Q8];congr 1
   rw[KH (g:=id),LA];exact fun c ab=>ZmZ (ZeE hc c ab)
theorem Zxe {c:COp} (hc:ZpM c=true) (he:∀ x∈ZE c,evO sl' x=evO sl x) (hs:∀ x∈ZE c,ZkJ g hp hp' (evO sl x)) {ce:Ze}
  (hb:∀ k,base≤k→k<base+64→k∉g) (h:vop C M sl hp base c=some ce) (ab:QP base (base+64) ce.eff.adds=true) (ad:ce.eff.frz=[]) (ho:okV ce.eff.val=true) (hk:kill g ce.eff.val=ce.eff.val):vop C M sl' hp' base c=some ce∧∀ k o,(k,o)∈ce.eff.adds→Q8 g o=o:=by
 rw[QX C M hp' base he];have aa:ce.eff.adds=[]→∀ k o,(k,o)∈ce.eff.adds→Q8 g o=o:=fun e k o hm=>by rw[e] at hm;simp at hm
 simp only[ZpM,Lt,Kd] at hc;rcases hc with ((hc | hc) | ⟨hc1,hc2⟩) | hc
 ·cases c<;>simp only[Jw,Kc] at hc<;>simp only[vop] at h ⊢ <;> simp only[ZE] at hs
  case load a s x=>exact⟨Zwk h (Zxc (hs x (by simp)) (Zax h) ho hk),aa (QI h)⟩
  case slice s x lo hi=>
   rw[ZgE (hs x (by simp))];exact⟨h,aa (QI h)⟩
  case slice0 x hi mx=>
   unfold slice0 at h ⊢;rw[ZdD (hs x (by simp))];exact⟨h,aa (QI h)⟩
  case iaS s x i=>
   obtain⟨n,h1,h⟩:=Za h;rw[h1,Zg];unfold ZiP at h ⊢;rw[ZaG (hs x (by simp))];refine⟨h,aa ?_⟩;split at h
   ·exact QI h
   ·cases h
  case len x=>
   rw[ZdD (hs x (by simp))];refine⟨h,aa ?_⟩;obtain⟨n,_,h⟩:=Za h;exact Z8 h
 ·cases c<;>simp only[ZrD,Kc] at hc
  simp only[vop] at h ⊢;obtain⟨h1,h2,h3⟩:=ZiK h ad hp';refine⟨h1,fun k o hm=>?_⟩;obtain⟨sz,xs,e,f,rfl⟩:=h3 k o hm;rfl
 ·rw[← ZkK (hp:=hp) hc1];exact⟨h,aa (Zvp hc1 hc2 h)⟩
 ·cases c<;>simp only[ZnW,Kc] at hc
  simp only[vop] at h ⊢;exact⟨h,(Zm0 hb hc h ab).2⟩
theorem Zvq {c:COp} (hc:ZkZ c=true) (he:∀ x∈ZE c,evO sl' x=evO sl x) (hs:∀ x∈ZE c,ZkJ g hp hp' (evO sl x)) {ce:Ze}
  (hn:∀ x∈ZE c,∀ id∈Zx (evO sl x),id∉g) (hb:∀ k,base≤k→k<base+64→k∉g)
  (h:vop C M sl' hp' base c=some ce) (ad:QP base (base+64) ce.eff.adds=true) (ae:ce.eff.frz=[]) (ho:okV ce.eff.val=true):vop C M sl hp base c=some ce∧kill g ce.eff.val=ce.eff.val∧∀ k o,(k,o)∈ce.eff.adds→Q8 g o=o:=by
 rw[QX C M hp' base he] at h;have aa:ce.eff.adds=[]→∀ k o,(k,o)∈ce.eff.adds→Q8 g o=o:=fun e k o hm=>by rw[e] at hm;simp at hm
 have names:(∀ id∈Zx ce.eff.val,id∉g)→kill g ce.eff.val=ce.eff.val:=Zwj ho;cases c<;>simp only[ZkZ,Kc] at hc<;>simp only[vop] at h ⊢ <;> simp only[ZE] at hs hn
 case alloc slc cs=>
  obtain⟨h1,h2⟩:=Zm0 hb hc h ad;exact⟨h,names h1,h2⟩
 case buildSl s xs=>
  obtain⟨h1,h2,h3⟩:=ZiK h ae hp;refine⟨h1,names fun id ab=>?_,fun k o hm=>?_⟩
  ·rcases h2 with h2 | h2
   ·rw[h2] at ab;simp[Zx,Zz,Zl] at ab
   ·rw[h2] at ab;simp[Zx,Zz,Zl] at ab;subst ab;exact hb _ (Kk _) (by omega)
  ·obtain⟨sz,xs,e,f,rfl⟩:=h3 k o hm;rfl
 case load a s x=>
  obtain⟨h1,h2⟩:=Zxd (hs x (by simp)) (Zax h) ho;exact⟨Zwk h h1,h2,aa (QI h)⟩
 case nilCheck x=>
  have hx:=hn x (by simp);refine⟨h,names ?_,aa ?_⟩
  ·unfold JY at h;split at h<;>rename_i hv<;>first | (cases h;done) | (cases h;show ∀ id∈Zx _,_;rw[← hv];exact hx)
  ·unfold JY at h;split at h<;>first | exact Z8 h | cases h
 case bin op eq x y=>
  have hd:∃ d,ce.eff.val=.d d:=by
   have o2:∀ {a b:AV},Vy (vbin op a b)=some ce→∃ d,ce.eff.val=.d d:=fun {a b} h=>by
    have h1:=Zax h;unfold vbin at h1;split at h1
    ·unfold JT at h1;split at h1
     ·obtain⟨y,_,h1⟩:=Za h1;exact⟨_,(Option.some.inj h1).symm⟩
     ·obtain⟨y,_,h1⟩:=Za h1;exact⟨_,(Option.some.inj h1).symm⟩
     ·split at h1
      ·obtain⟨y,_,h1⟩:=Za h1;have:=Option.some.inj h1;exact⟨_,this.symm⟩
      ·cases h1
    ·obtain⟨y,_,h1⟩:=Za h1;have:=Option.some.inj h1;exact⟨_,this.symm⟩
    ·cases h1
   unfold Zpv at h;split at h
   ·split at h
    ·have h1:=Zax h;unfold Zq7 at h1;split at h1
     ·exact⟨_,(Option.some.inj h1).symm⟩
     ·exact⟨_,(Option.some.inj h1).symm⟩
     ·cases h1
    ·cases h
   ·exact o2 h
  obtain⟨d,hd⟩:=hd;refine⟨h,by rw[hd];rfl,aa ?_⟩;unfold Zpv at h;split at h
  ·split at h
   ·exact QI h
   ·cases h
  ·exact QI h
 case un op x=>
  have hd:∃ d,ce.eff.val=.d d:=by
   have h1:=Zax h;unfold vun at h1;split at h1
   ·unfold neg1 at h1;split at h1
    ·exact⟨_,(Option.some.inj h1).symm⟩
    ·cases h1
   ·unfold not1 at h1;split at h1
    ·exact⟨_,(Option.some.inj h1).symm⟩
    ·cases h1
   ·cases h1
  obtain⟨d,hd⟩:=hd;exact⟨h,by rw[hd];rfl,aa (QI h)⟩
 case convI k x=>
  unfold Go.Abs.convI at h ⊢;split at h
  ·exact⟨h,by cases h;rfl,aa (Z8 h)⟩
  ·cases h
 case shift off x=>
  have hx:=hn x (by simp);refine⟨h,names ?_,aa ?_⟩
  ·unfold Wf at h;split at h<;>rename_i hv<;>first | (cases h;done) | skip
   ·cases h;rw[hv] at hx;simpa [Zx,Zz,Zl] using hx
   ·cases h;rw[hv] at hx;simpa [Zx,Zz,Zl] using hx
   ·cases h;simp[Zx,Zz,Zl]
  ·unfold Wf at h;split at h<;>first | exact Z8 h | cases h
 case slice s x lo hi=>
  have hx:=hn x (by simp);rw[ZgE (hs x (by simp))] at h;refine⟨h,names ?_,aa (QI h)⟩;have h1:=Zax h;cases hv:evO sl x<;>rw[hv] at h1 hx<;>simp only[Vx] at h1<;>first | (cases h1;done) | skip
  case d y=>
   cases y<;>simp only[Vx] at h1<;>first | (cases h1;done) | skip
   split at h1
   ·obtain⟨b,_,h1⟩:=Za h1;rw[← Option.some.inj h1];simp[Zx,Zz,Zl]
   ·cases h1
  case nil=>obtain⟨b,_,h1⟩:=Za h1;rw[← Option.some.inj h1];simp[Zx,Zz,Zl]
  case own id=>
   unfold ZbU at h1;split at h1
   ·split at h1
    ·unfold Zuk at h1;split at h1
     ·rw[← Option.some.inj h1];exact hx
     ·obtain⟨b,_,h1⟩:=Za h1;rw[← Option.some.inj h1];simpa [Zx,Zz,Zl] using hx
    ·cases h1
   ·cases h1
  case ownv id off n=>
   unfold JX at h1;split at h1
   ·split at h1
    ·obtain⟨b,_,h1⟩:=Za h1;rw[← Option.some.inj h1];simpa [Zx,Zz,Zl] using hx
    ·cases h1
   ·cases h1
 case sliceS x lo hi=>
  have hd:∃ d,ce.eff.val=.d d:=by
   have h1:=Zax h;unfold sliceS at h1;split at h1
   ·obtain⟨b,_,h1⟩:=Za h1;exact⟨_,(Option.some.inj h1).symm⟩
   ·cases h1
  obtain⟨d,hd⟩:=hd;exact⟨h,by rw[hd];rfl,aa (QI h)⟩
 case lenS x=>
  obtain⟨n,h1,h⟩:=Za h;refine⟨by rw[h1,Zg];exact h,by cases h;rfl,aa (Z8 h)⟩
 case iaS s x i=>
  have hx:=hn x (by simp);obtain⟨n,h1,h⟩:=Za h;rw[h1,Zg];unfold ZiP at h ⊢;rw[ZaG (hs x (by simp))] at h;refine⟨h,names ?_,aa ?_⟩
  ·split at h
   ·have h1:=Zax h;cases hv:evO sl x<;>rw[hv] at h1 hx<;>simp only[Qt] at h1<;>first | (cases h1;done) | skip
    case d y=>
     cases y<;>simp only[Qt] at h1<;>first | (cases h1;done) | skip
     obtain⟨b,_,h1⟩:=Za h1;unfold Zwt at h1;split at h1
     ·rw[← Option.some.inj h1];simp[Zx,Zz,Zl]
     ·cases h1
    case own id=>
     unfold Zct at h1;split at h1
     ·split at h1
      ·rw[← Option.some.inj h1];simpa [Zx,Zz,Zl] using hx
      ·cases h1
     ·split at h1
      ·rw[← Option.some.inj h1];simpa [Zx,Zz,Zl] using hx
      ·cases h1
     ·cases h1
    case ownv id off n=>
     unfold ZbT at h1;split at h1
     ·split at h1
      ·rw[← Option.some.inj h1];simpa [Zx,Zz,Zl] using hx
      ·cases h1
     ·cases h1
   ·cases h
  ·split at h
   ·exact QI h
   ·cases h
 case len x=>
  rw[ZdD (hs x (by simp))] at h;obtain⟨n,h1,h2⟩:=Za h;exact⟨h,by cases h2;rfl,aa (Z8 h2)⟩
end
end Go.Abs
