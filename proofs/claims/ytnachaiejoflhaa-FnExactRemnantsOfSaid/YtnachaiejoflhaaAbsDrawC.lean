/- Own text. -/
import Derived.Test.YtnachaiejoflhaaAbsDraw3
import Derived.Test.YtnachaiejoflhaaAbsSound5
set_option linter.unusedVariables false
set_option linter.unusedSimpArgs false
namespace Go.Abs
open Go
theorem Zom {v:AV} (h:okC v=true):okV v=true:=by
 cases v<;>first | exact h | cases h
theorem ZeI {g:List Nat} {v:AV} (h:okC (ZS g v)=true):ZS g v=v:=by
 cases v<;>simp only[ZS] at h ⊢ <;> first | rfl | (split at h<;>rename_i h' <;> first | (cases h;done) | rw[Ko h'])
theorem Zdb {g:List Nat}:∀ {cs:List AV},ZkN (cs.map (ZS g))=true→cs.map (ZS g)=cs
 | [],_=>rfl
 | c :: cs,h=>by
  simp only[Ky,ZkN,Kb] at h ⊢;rw[ZeI h.1,Zdb h.2]
theorem JV {g:List Nat} {v:AV} (h:okV (ZD g v)=true):ZD g v=v:=by
 cases v with
 | agg cs=>simp only[ZD,okV] at h ⊢;rw[Zdb h]
 | clo f cs=>simp only[ZD,okV,okC] at h;cases h
 | tup vs=>rfl
 | _=>
  simp only[ZD] at h ⊢;refine ZeI ?_;revert h;simp only[ZS]
  first | exact id | (split<;>first | exact id | (intro h;cases h))
theorem Ut {g:List Nat} {v:AV} (h:okV (kill g v)=true):kill g v=v:=by
 cases v with
 | tup vs=>
  cases vs with
  | nil=>rfl
  | cons x r=>simp only[kill,Ky,okV,okC] at h;cases h
 | _=>simp only[kill] at h ⊢;exact JV h
theorem ZlI {g:List Nat} {v:AV} (hn:∀ id∈Zf v,id∉g):ZS g v=v:=by
 cases v<;>simp only[ZS]<;>first | rfl | (rw[Ko];simpa [Zf] using hn)
theorem Zon {g:List Nat} {v:AV} (h:okV v=true) (hn:∀ id∈Zn v,id∉g):kill g v=v:=by
 cases v with
 | tup vs=>
  cases vs with
  | nil=>rfl
  | cons x r=>simp only[okV,okC] at h;cases h
 | clo f cs=>simp only[okV,okC] at h;cases h
 | agg cs=>
  simp only[kill,ZD];congr 1
  rw[KB (g:=id),K8];intro c hc;exact ZlI fun id aa=>hn id (by simp only[Zn,Zq,Kk];exact⟨c,hc,aa⟩)
 | _=>simp only[kill,ZD];exact ZlI hn
theorem Zqm {g:List Nat} {v:AV} (h:kill g v=v):∀ id∈Zn v,id∉g:=fun id aa=>(Zjg g v id (by rw[h];exact aa)).2
theorem Zpe {g:List Nat} {c:AV} (h:okC c=true) (h1:ZS g c=c):ZD g c=c:=by
 cases c<;>simp only[ZD]<;>first | exact h1 | cases h
def Uu (g:List Nat):Option Zj→Option Zj→Prop
 | none,none=>True
 | some (.row s xs _ _),some (.row s' xs' _ _)=>s'=s∧xs'=xs
 | some (.box cs),some (.box cs')=>cs'=cs.map (ZD g)
 | some (.tree s n xs l),some (.tree s' n' xs' l')=>s'=s∧n'=n∧xs'=xs∧l'=Ym g l
 | some .gone,some .gone=>True
 | _,_=>False
theorem ZlJ {g:List Nat} {b:Bool} (o:Option Zj):Uu g o ((o.map (QH g)).map fun o=>if b then XL o else o):=by
 cases o with
 | none=>trivial
 | some o=>cases o<;>cases b<;>exact(by first | exact⟨rfl,rfl⟩ | exact rfl | exact⟨rfl,rfl,rfl,rfl⟩ | exact trivial)
theorem Zjq {g:List Nat}:∀ {l:List AV} {ds:List D},Zag l=some ds→l.map (ZD g)=l
 | [],ds,_=>rfl
 | v :: l,ds,h=>by
  simp only[Zag] at h;obtain⟨x,h1,h⟩:=Za h;obtain⟨aa,h2,h⟩:=Za h;have:ZD g v=v:=by cases v<;>first | rfl | cases h1
  rw[Ky,this,Zjq h2]
theorem Zg3 {g:List Nat}:∀ {l:List AV} {ds:List D},Zag (l.map (ZD g))=some ds→l.map (ZD g)=l
 | [],ds,_=>rfl
 | v :: l,ds,h=>by
  simp only[Ky,Zag] at h;obtain⟨x,h1,h⟩:=Za h;obtain⟨aa,h2,h⟩:=Za h;have hv:ZD g v=v:=by
   refine JV ?_;cases hk:ZD g v<;>rw[hk] at h1<;>first | rfl | cases h1
  rw[Ky,hv,Zg3 h2]
theorem Zbs (l:List AV):(∃ ds,Zag l=some ds∧VF l=.d (.agg ds))∨(Zag l=none∧(VF l=.junk∨VF l=.agg l)):=by
 unfold VF;cases h:Zag l with
 | some ds=>exact .inl ⟨ds,rfl,rfl⟩
 | none=>
  refine .inr ⟨rfl,?_⟩;unfold Vg;split
  ·rename_i h;cases h
  ·split
   ·exact .inl rfl
   ·exact .inr rfl
theorem ZdU:∀ {l:List AV},ZkN l=true→∀ c∈l,okC c=true
 | [],_,c,hc=>by simp at hc
 | x :: l,h,c,hc=>by
  simp only[ZkN,Kb] at h;rcases Ke.1 hc with rfl | hc
  ·exact h.1
  ·exact ZdU h.2 c hc
theorem Zpf {g:List Nat} {l:List AV} (h:okV (VF l)=true) (hk:kill g (VF l)=VF l):l.map (ZD g)=l:=by
 rcases Zbs l with ⟨ds,h1,h2⟩ | ⟨h1,h2 | h2⟩
 ·exact Zjq h1
 ·rw[h2] at h;cases h
 ·rw[h2] at h hk;simp only[kill,ZD,AV.agg.injEq] at hk;simp only[okV] at h;have hm:=ZdU h;have aa : ∀ c∈l,ZS g c=c:=by
   intro c hc;have:=Zdb (g:=g) (cs:=l) (by rw[hk];exact h);exact ZeI (by
    have h3:ZS g c∈l.map (ZS g):=List.mem_map_of_mem hc;rw[hk] at h3;exact hm _ h3)
  rw[KB (g:=id),K8];intro c hc;exact Zpe (hm c hc) (aa c hc)
theorem Zpg {g:List Nat} {l:List AV} (h:okV (VF (l.map (ZD g)))=true):l.map (ZD g)=l:=by
 rcases Zbs (l.map (ZD g)) with ⟨ds,h1,h2⟩ | ⟨h1,h2 | h2⟩
 ·exact Zg3 h1
 ·rw[h2] at h;cases h
 ·rw[h2] at h;simp only[okV] at h;have hm:=ZdU h;rw[KB (g:=id),K8];intro c hc;exact JV (Zom (hm _ (List.mem_map_of_mem hc)))
theorem Znk {g:List Nat} {v:AV} (h:okV v=true) (hk:kill g v=v):ZD g v=v:=by
 cases v with
 | tup vs=>rfl
 | _=>simp only[kill] at hk;exact hk
theorem Znl {g:List Nat} {v:AV} (h:okV v=true) (hk:ZD g v=v):kill g v=v:=by
 cases v with
 | tup vs=>
  cases vs with
  | nil=>rfl
  | cons x r=>simp only[okV,okC] at h;cases h
 | _=>simp only[kill];exact hk
theorem ZcN {α β:Type} (f:α→β) (l:List α) (a b:Nat):((l.map f).drop a).take b=((l.drop a).take b).map f:=by
 rw[← List.map_drop,← List.map_take]
theorem ZfC (g:List Nat) (c:AV):Zd0 (ZD g c)=ZD g (Zd0 c):=by
 have aa:∀ v:AV,(∀ a b,v≠.bbuf a b)→Zd0 v=v:=fun v h'=>by cases v<;>first | rfl | exact absurd rfl (h' _ _)
 by_cases h' : ∃ a b,c=.bbuf a b
 ·obtain⟨a,b,rfl⟩:=h';rfl
 ·have h2:∀ a b,c≠.bbuf a b:=fun a b e=>h' ⟨a,b,e⟩;rw[aa c h2,aa];exact fun a b e=>h2 a b ((Vp g c a b).1 e)
theorem ZlK {g:List Nat} {cs:List AV} {a:Bool} {s off:Nat} {v:AV} (h:WG a s off (some (.box cs))=some v) (ho:okV v=true) (hk:kill g v=v):WG a s off (some (.box (cs.map (ZD g))))=some v:=by
 unfold WG at h ⊢;cases a with
 | true=>
  simp only[Kj] at h ⊢;split at h
  ·rename_i hl;cases h;rw[Kt (by simpa using hl),ZcN,Zpf ho hk]
  ·cases h
 | false=>
  simp only[Ka,Ki] at h ⊢;obtain⟨c,hc,rfl⟩:=Option.map_eq_some_iff.1 h;rw[Ld,hc];simp only[KM];rw[ZfC,Znk ho hk]
theorem ZlL {g:List Nat} {cs:List AV} {a:Bool} {s off:Nat} {v:AV} (h:WG a s off (some (.box (cs.map (ZD g))))=some v) (ho:okV v=true):WG a s off (some (.box cs))=some v∧kill g v=v:=by
 unfold WG at h ⊢;cases a with
 | true=>
  simp only[Kj] at h ⊢;split at h
  ·rename_i hl;cases h;rw[ZcN] at ho ⊢;have he:=Zpg ho;rw[he] at ho ⊢;refine⟨by rw[Kt (by simpa using hl)],?_⟩;rcases Zbs ((cs.drop off).take s) with ⟨ds,h1,h2⟩ | ⟨h1,h2 | h2⟩
   ·rw[h2];rfl
   ·rw[h2] at ho;cases ho
   ·rw[h2] at ho ⊢;simp only[okV] at ho;have hm:=ZdU ho;simp only[kill,ZD,AV.agg.injEq];rw[KB (g:=id),K8];intro c hc;have h3:ZD g c=c:=by
     refine JV ?_;have h4:ZD g c∈((cs.drop off).take s).map (ZD g):=List.mem_map_of_mem hc;rw[he] at h4;exact Zom (hm _ h4)
    have:=hm c hc;cases c<;>first | exact h3 | cases this
  ·cases h
 | false=>
  simp only[Ka,Ki] at h ⊢;rw[Ld] at h;cases hc:cs[off]? with
  | none=>rw[hc] at h;cases h
  | some c=>
   rw[hc] at h;simp only[KM,Option.some.injEq] at h;rw[ZfC] at h;have h3:ZD g (Zd0 c)=Zd0 c:=JV (by rw[h];exact ho);rw[h3] at h;subst h;exact⟨rfl,Znl ho h3⟩
theorem Znm {g:List Nat} {o o' : Option Zj} (h:Uu g o o'):YI o'=YI o:=by
 cases o with
 | none=>cases o' with
  | none=>rfl
  | some o'=>cases h
 | some o=>cases o' with
  | none=>cases o<;>cases h
  | some o' =>
   have tr:∀ s n xs l,YI (some (.tree s n xs (Ym g l)))=YI (some (.tree s n xs l)):=by
    intro s n xs l;rcases l with _ | ⟨_ | nm,_⟩
    ·rfl
    ·rfl
    ·simp only[Ym];split<;>rfl
   cases o<;>cases o' <;> simp only[Uu] at h<;>first | (cases h;done) | rfl | (obtain⟨rfl,rfl⟩:=h;rfl) | (obtain⟨rfl,rfl,rfl,rfl⟩:=h;exact tr _ _ _ _)
theorem Uv {g:List Nat} {o o' : Option Zj} (h:Uu g o o'):(∃ s xs e f e' f',o=some (.row s xs e f)∧o'=some (.row s xs e' f'))∨(o=none∧o'=none)∨(∃ cs,o=some (.box cs)∧o'=some (.box (cs.map (ZD g))))∨(o=some .gone∧o'=some .gone)∨(∃ s n xs l,o=some (.tree s n xs l)∧o'=some (.tree s n xs (Ym g l))):=by
 cases o with
 | none=>cases o' with
  | none=>exact .inr (.inl ⟨rfl,rfl⟩)
  | some o'=>cases h
 | some o=>cases o' with
  | none=>cases o<;>cases h
  | some o' =>
   cases o with
   | box cs=>cases o' with
    | box cs'=>simp only[Uu] at h;subst h;exact .inr (.inr (.inl ⟨cs,rfl,rfl⟩))
    | row _ _ _ _=>cases h
    | gone=>cases h
    | tree _ _ _ _=>cases h
   | row s xs e f=>cases o' with
    | box cs'=>cases h
    | row s' xs' e' f'=>simp only[Uu] at h;obtain⟨rfl,rfl⟩:=h;exact .inl ⟨_,_,_,_,_,_,rfl,rfl⟩
    | gone=>cases h
    | tree _ _ _ _=>cases h
   | gone=>cases o' with
    | box cs'=>cases h
    | row _ _ _ _=>cases h
    | gone=>exact .inr (.inr (.inr (.inl ⟨rfl,rfl⟩)))
    | tree _ _ _ _=>cases h
   | tree s n xs l=>cases o' with
    | box cs'=>cases h
    | row _ _ _ _=>cases h
    | gone=>cases h
    | tree s' n' xs' l'=>simp only[Uu] at h;obtain⟨rfl,rfl,rfl,rfl⟩:=h;exact .inr (.inr (.inr (.inr ⟨_,_,_,_,rfl,rfl⟩)))
section
variable {g:List Nat} {o o' : Option Zj}
theorem Zkq (h:Uu g o o') (sz id n:Nat):Jh sz id n o'=Jh sz id n o:=by
 rcases Uv h with ⟨s,xs,e,f,e',f',rfl,rfl⟩ | ⟨rfl,rfl⟩ | ⟨cs,rfl,rfl⟩ | ⟨rfl,rfl⟩ | ⟨s,n,xs,l,rfl,rfl⟩<;>rfl
theorem Ziq (h:Uu g o o') (sz id off m n:Nat):UA sz id off m n o'=UA sz id off m n o:=by
 rcases Uv h with ⟨s,xs,e,f,e',f',rfl,rfl⟩ | ⟨rfl,rfl⟩ | ⟨cs,rfl,rfl⟩ | ⟨rfl,rfl⟩ | ⟨s,n,xs,l,rfl,rfl⟩<;>rfl
theorem Zir (h:Uu g o o') (s id:Nat) (lo hi:Option AV):UB s id lo hi o'=UB s id lo hi o:=by
 rcases Uv h with ⟨s,xs,e,f,e',f',rfl,rfl⟩ | ⟨rfl,rfl⟩ | ⟨cs,rfl,rfl⟩ | ⟨rfl,rfl⟩ | ⟨s,n,xs,l,rfl,rfl⟩<;>rfl
theorem Zg4 (h:Uu g o o') (s id off n:Nat) (lo hi:Option AV):Wp s id off n lo hi o'=Wp s id off n lo hi o:=by
 rcases Uv h with ⟨s,xs,e,f,e',f',rfl,rfl⟩ | ⟨rfl,rfl⟩ | ⟨cs,rfl,rfl⟩ | ⟨rfl,rfl⟩ | ⟨s,n,xs,l,rfl,rfl⟩<;>rfl
theorem Zkr {i off:Nat} {l:Option (Option Nat×Nat×Nat)} {x:D} {v:AV} (h:VL i off l x=some v) (hk:kill g v=v):VL i off (Ym g l) x=some v:=by
 unfold VL at h ⊢;split at h
 ·unfold ZfK at h;split at h
  ·rename_i nm i' c;split at h
   ·rename_i hc;cases h;have:g.contains nm=false:=by
     cases hg:g.contains nm with
     | false=>rfl
     | true=>simp only[kill,ZD,ZS,hg,Kj] at hk;cases hk
    simp only[Ym,this,Ka,Ki,ZfK,hc,and_self,Kj]
   ·cases h
  ·cases h
 ·exact h
 ·cases h
theorem Zks {i off:Nat} {l:Option (Option Nat×Nat×Nat)} {x:D} {v:AV} (h:VL i off (Ym g l) x=some v):VL i off l x=some v∧kill g v=v:=by
 unfold VL at h ⊢;split at h
 ·unfold ZfK at h;split at h
  ·rename_i nm i' c hl;split at h
   ·rename_i hc;cases h;unfold Ym at hl;split at hl
    ·rename_i ab q;split at hl
     ·cases hl
     ·rename_i hg;cases hl;simp only[LA] at hg;exact⟨by simp only[ZfK,hc,and_self,Kj],by simp only[kill,ZD,ZS,hg,Ka,Ki]⟩
    ·rename_i aa;subst hl;exact absurd rfl (aa _ _)
   ·cases h
  ·cases h
 ·split at h
  ·rename_i hp;cases h;exact⟨by rw[Kt hp],rfl⟩
  ·cases h
 ·cases h
theorem ZdV {id:Nat} (h:Uu g o o') {a:Bool} {s sz i off:Nat} {v:AV}:(VM id a s sz i off o=some v→kill g v=v→VM id a s sz i off o'=some v)∧(VM id a s sz i off o'=some v→VM id a s sz i off o=some v∧kill g v=v):=by
 have aa:∀ {cs:List D},Uy a s off cs=some v→∃ d,v=.d d:=by
  intro cs h;unfold Uy at h;split at h
  ·split at h
   ·cases h;exact⟨_,rfl⟩
   ·cases h
  ·unfold asD at h;obtain⟨y,_,h⟩:=Za h;cases h;exact⟨_,rfl⟩
 rcases Uv h with ⟨s,xs,e,f,e',f',rfl,rfl⟩ | ⟨rfl,rfl⟩ | ⟨cs,rfl,rfl⟩ | ⟨rfl,rfl⟩ | ⟨s,n,xs,l,rfl,rfl⟩
 ·refine⟨fun h _=>h,fun h=>⟨h,?_⟩⟩;simp only[VM] at h;split at h
  ·obtain⟨x,_,h⟩:=Za h;unfold Zd1 at h;split at h
   ·obtain⟨d,rfl⟩:=aa h;rfl
   ·cases h
  ·cases h
 ·exact⟨fun h _=>(by cases h),fun h=>(by cases h)⟩
 ·exact⟨fun h _=>(by cases h),fun h=>(by cases h)⟩
 ·exact⟨fun h _=>(by cases h),fun h=>(by cases h)⟩
 ·simp only[VM];split
  ·split
   ·exact⟨fun h _=>(by cases h),fun h=>(by cases h)⟩
   ·constructor
    ·intro hh hk;obtain⟨x,h1,hh⟩:=Za hh;rw[h1,Zc];exact Zkr hh hk
    ·intro hh;obtain⟨x,h1,hh⟩:=Za hh;rw[h1,Zc];exact Zks hh
  ·exact⟨fun h _=>(by cases h),fun h=>(by cases h)⟩
end
section
variable {hp hp' : Hp} {g:List Nat}
def ZdW (g:List Nat) (hp hp' : Hp) (v:AV):Prop:=∀ k∈Zn v,Uu g (lkp hp k) (lkp hp' k)
theorem JW {v:AV} (h:ZdW g hp hp' v):Jx hp' v=Jx hp v:=by
 cases v<;>simp only[Jx]
 case d x=>cases x<;>rfl
 case own id=>rw[Znm (h id (by simp[Zn,Zq,Zf]))]
theorem W2 {v:AV} (h:ZdW g hp hp' v) (sz n:Nat):Qg hp' sz n v=Qg hp sz n v:=by
 cases v<;>simp only[Qg]
 case d x=>cases x<;>rfl
 case own id=>rw[Zkq (h id (by simp[Zn,Zq,Zf]))]
 case ownv id off n=>rw[Ziq (h id (by simp[Zn,Zq,Zf]))]
theorem Zbt {v:AV} (h:ZdW g hp hp' v) (s:Nat) (lo hi:Option AV):X8 hp' s lo hi v=X8 hp s lo hi v:=by
 cases v<;>simp only[X8]
 case d x=>cases x<;>rfl
 case own id=>rw[Zir (h id (by simp[Zn,Zq,Zf]))]
 case ownv id off n=>rw[Zg4 (h id (by simp[Zn,Zq,Zf]))]
theorem Zph {x v:AV} (hs:ZdW g hp hp' x) {a:Bool} {s:Nat} (h:Y4 hp a s x=some v) (ho:okV v=true) (hk:kill g v=v):Y4 hp' a s x=some v:=by
 cases x<;>simp only[Y4] at h ⊢ <;> first | (cases h;done) | skip
 case ptr id off=>
  rcases Uv (hs id (by simp[Zn,Zq,Zf])) with ⟨_,_,_,_,_,_,e1,e2⟩ | ⟨e1,e2⟩ | ⟨cs,e1,e2⟩ | ⟨e1,e2⟩ | ⟨_,_,_,_,e1,e2⟩
  ·rw[e1] at h;cases h
  ·rw[e1] at h;cases h
  ·rw[e1] at h;rw[e2];exact ZlK h ho hk
  ·rw[e1] at h;cases h
  ·rw[e1] at h;cases h
 case prow id sz i off=>exact(ZdV (hs id (by simp[Zn,Zq,Zf]))).1 h hk
 case pim cs=>exact h
theorem Zqn {a:Bool} {s off:Nat} {cs:List D} {v:AV} (h:Uy a s off cs=some v):∃ d,v=.d d:=by
 unfold Uy at h;split at h
 ·split at h
  ·cases h;exact⟨_,rfl⟩
  ·cases h
 ·unfold asD at h;obtain⟨y,_,h⟩:=Za h;cases h;exact⟨_,rfl⟩
theorem Zpi {x v:AV} (hs:ZdW g hp hp' x) {a:Bool} {s:Nat} (h:Y4 hp' a s x=some v) (ho:okV v=true):Y4 hp a s x=some v∧kill g v=v:=by
 cases x<;>simp only[Y4] at h ⊢ <;> first | (cases h;done) | skip
 case ptr id off=>
  rcases Uv (hs id (by simp[Zn,Zq,Zf])) with ⟨_,_,_,_,_,_,e1,e2⟩ | ⟨e1,e2⟩ | ⟨cs,e1,e2⟩ | ⟨e1,e2⟩ | ⟨_,_,_,_,e1,e2⟩
  ·rw[e2] at h;cases h
  ·rw[e2] at h;cases h
  ·rw[e2] at h;rw[e1];exact ZlL h ho
  ·rw[e2] at h;cases h
  ·rw[e2] at h;cases h
 case prow id sz i off=>
  exact(ZdV (hs id (by simp[Zn,Zq,Zf]))).2 h
 case pim cs=>
  obtain⟨d,rfl⟩:=Zqn h;exact⟨h,rfl⟩
theorem ZfD {x:AV} {d:D} {e:Bool} (h:W9 hp x=some (d,e,[])) (hp' : Hp):W9 hp' x=some (d,e,[]):=by
 cases x<;>simp only[W9] at h ⊢ <;> first | exact h | skip
 case own id=>obtain⟨q,_,h⟩:=Za h;simp at h
theorem ZfE:∀ {xs:List AV} {d:List D} {e:Bool},Yb hp xs=some (d,e,[])→∀ hp' : Hp,Yb hp' xs=some (d,e,[])
 | [],d,e,h,hp'=>h
 | x :: xs,d,e,h,hp'=>by
  simp only[Yb] at h ⊢;obtain⟨⟨d1,e1,l1⟩,h1,h⟩:=Za h;obtain⟨⟨d2,e2,l2⟩,h2,h⟩:=Za h;have hl:l1=[]∧l2=[]:=by
   simp only at h;split at h
   ·simp only[Option.some.injEq,Prod.mk.injEq,List.append_eq_nil_iff] at h;exact h.2.2
   ·cases h
  obtain⟨rfl,rfl⟩:=hl;rw[ZfD h1 hp',Zc,ZfE h2 hp',Zc];exact h
theorem Znn {x:AV} {d:D} {e:Bool} (h:give hp x=some (d,e,[])) (hp' : Hp):give hp' x=some (d,e,[]):=by
 cases x<;>simp only[give] at h ⊢ <;> first | exact ZfD h hp' | skip
 case agg cs=>
  obtain⟨⟨d1,e1,l1⟩,h1,h⟩:=Za h;simp only[Option.some.injEq,Prod.mk.injEq] at h;obtain⟨rfl,rfl,rfl⟩:=h;rw[ZfE h1 hp',Zc]
theorem ZcO:∀ {xs:List AV} {d:List D} {e:Bool},YJ hp xs=some (d,e,[])→∀ hp' : Hp,YJ hp' xs=some (d,e,[])
 | [],d,e,h,hp'=>h
 | x :: xs,d,e,h,hp'=>by
  simp only[YJ] at h ⊢;obtain⟨⟨d1,e1,l1⟩,h1,h⟩:=Za h;obtain⟨⟨d2,e2,l2⟩,h2,h⟩:=Za h;have hl:l1=[]∧l2=[]:=by
   simp only at h;split at h
   ·simp only[Option.some.injEq,Prod.mk.injEq,List.append_eq_nil_iff] at h;exact h.2.2
   ·cases h
  obtain⟨rfl,rfl⟩:=hl;rw[Znn h1 hp',Zc,ZcO h2 hp',Zc];exact h
theorem ZcP {base s:Nat} {vs:List AV} {ce:Zb} (h:buildSl hp base s vs=some ce) (hf:ce.eff.frz=[]) (hp' : Hp) :
  buildSl hp' base s vs=some ce∧(ce.eff.val=.nil∨ce.eff.val=.own base)∧(∀ k o,(k,o)∈ce.eff.adds→∃ sz xs e f,o=.row sz xs e f):=by
 cases vs with
 | nil=>simp only[buildSl,Qs] at h ⊢;cases h;exact⟨rfl,.inl rfl,fun k o h=>by simp at h⟩
 | cons v vs=>
  simp only[buildSl] at h ⊢;obtain⟨⟨ds,e,l⟩,h1,h⟩:=Za h;unfold Zpx at h;split at h
  ·rename_i hc;cases h;simp only at hf;subst hf;rw[ZcO h1 hp',Zc];refine⟨?_,.inr rfl,fun k o ho=>?_⟩
   ·unfold Zpx;rw[Kt hc]
   ·simp at ho;obtain⟨rfl,rfl⟩:=ho;exact⟨_,_,_,_,rfl⟩
  ·cases h
end
theorem ZdX {C:Orc} {M:Zh} {sl:Sl} {hp hp' : Hp} {base:Nat} {c:COp} (hc:Yv c=true):vop C M sl hp base c=vop C M sl hp' base c:=by
 cases c<;>first | rfl | (simp[Yv] at hc)
section
variable {C:Orc} {M:Zh} {sl sl' : Sl} {hp hp' : Hp} {base:Nat} {g:List Nat}
theorem ZR {v:AV} {ce:Zb} (h:Qs v=some ce):ce.eff.adds=[]:=by cases h;rfl
theorem Qr {v:Option AV} {ce:Zb} (h:X9 v=some ce):ce.eff.adds=[]:=by obtain⟨v,_,h⟩:=Za h;exact ZR h
theorem WN {v:Option AV} {ce:Zb} (h:X9 v=some ce):v=some ce.eff.val:=by obtain⟨v,rfl,h⟩:=Za h;cases h;rfl
theorem Zoo {v:Option AV} {ce:Zb} {w:Option AV} (h:X9 v=some ce) (hw:w=some ce.eff.val):X9 w=some ce:=by
 obtain⟨v,rfl,h⟩:=Za h;cases h;rw[hw];rfl
theorem Zno {c:COp} (hc:Yv c=true) (hv:ZnJ c=true) {ce:Zb} (h:vop C M sl hp base c=some ce):ce.eff.adds=[]:=by
 cases c<;>simp only[Yv,ZnJ,Ka] at hc hv<;>simp only[vop] at h
 case stuck=>cases h
 case move x=>exact ZR h
 case pick c a b=>
  unfold ZbG at h;split at h
  ·split at h<;>exact ZR h
  ·cases h
 case build zs ps=>obtain⟨cs,_,h⟩:=Za h;exact ZR h
 case nilCheck x=>unfold Wq at h;split at h<;>first | exact ZR h | cases h
 case bin op eq x y=>
  unfold Zhk at h;split at h
  ·split at h
   ·exact Qr h
   ·cases h
  ·exact Qr h
 case un op x=>exact Qr h
 case eqA neg n x y=>
  unfold ZkD at h;split at h
  ·obtain⟨r,_,h⟩:=Za h;exact ZR h
  ·cases h
 case convI k x=>unfold Go.Abs.convI at h;split at h<;>first | exact ZR h | cases h
 case convS x=>unfold Go.Abs.convS at h;split at h<;>first | exact ZR h | cases h
 case sliceS x lo hi=>exact Qr h
 case shift off x=>unfold Yu at h;split at h<;>first | exact ZR h | cases h
 case part g s off x=>exact Qr h
 case iaA len s x i=>
  obtain⟨n,_,h⟩:=Za h;unfold Zhm at h;split at h
  ·unfold Yu at h;split at h<;>first | exact ZR h | cases h
  ·cases h
 case ixS x i=>
  obtain⟨n,_,h⟩:=Za h;unfold Znx at h;split at h
  ·unfold ZlY at h;split at h
   ·obtain⟨b,_,h⟩:=Za h;exact ZR h
   ·cases h
  ·cases h
 case ixA g s len x i=>
  obtain⟨n,_,h⟩:=Za h;unfold Zpy at h;split at h
  ·exact Qr h
  ·cases h
 case nth i x=>unfold ZlZ at h;split at h<;>first | exact Qr h | cases h
 case lenS x=>obtain⟨n,_,h⟩:=Za h;exact ZR h
 case min x y=>unfold ZfL at h;split at h<;>first | (split at h<;>first | exact ZR h | cases h) | cases h
 case max x y=>unfold ZfM at h;split at h<;>first | (split at h<;>first | exact ZR h | cases h) | cases h
theorem ZfF {c:AV} (h:JE c=true):ZD g c=c:=by cases c<;>first | rfl | cases h
theorem Zao:∀ {cs:List AV},XY cs=true→∀ c∈cs,JE c=true
 | [],_,c,hc=>by simp at hc
 | x :: l,h,c,hc=>by
  simp only[XY,Kb] at h;rcases Ke.1 hc with rfl | hc
  ·exact h.1
  ·exact Zao h.2 c hc
theorem ZeJ:∀ (slc:List (Option Nat)) (cs:List AV) (b:Nat),(∀ c∈(mat slc cs b).1,c∈cs∨∃ k o,c=.own k∧(k,o)∈(mat slc cs b).2)∧∀ k o,(k,o)∈(mat slc cs b).2→∃ sz,o=.row sz [] true false
 | [],cs,b=>by simp only[mat];exact⟨fun c hc=>.inl hc,fun k o h=>by simp at h⟩
 | t :: ts,[],b=>by cases t<;>(simp only[mat];exact⟨fun c hc=>.inl hc,fun k o h=>by simp at h⟩)
 | t :: ts,v :: vs,b=>by
  by_cases hv:(∃ sz,t=some sz)∧v=.nil
  ·obtain⟨⟨sz,rfl⟩,rfl⟩:=hv;obtain⟨h1,h2⟩:=ZeJ ts vs (b+1);simp only[mat];refine⟨fun c hc=>?_,fun k o h=>?_⟩
   ·rcases Ke.1 hc with rfl | hc
    ·exact .inr ⟨b,_,rfl,KS ..⟩
    ·rcases h1 c hc with h | ⟨k,o,e,h⟩
     ·exact .inl (Km _ h)
     ·exact .inr ⟨k,o,e,Km _ h⟩
   ·rcases Ke.1 h with h | h
    ·cases h;exact⟨_,rfl⟩
    ·exact h2 k o h
  ·obtain⟨h1,h2⟩:=ZeJ ts vs b;have e:mat (t :: ts) (v :: vs) b=(v :: (mat ts vs b).1,(mat ts vs b).2):=by
    cases t with
    | none=>simp[mat]
    | some sz=>cases v<;>first | (exact absurd ⟨⟨sz,rfl⟩,rfl⟩ hv) | simp[mat]
   rw[e];refine⟨fun c hc=>?_,h2⟩;rcases Ke.1 hc with rfl | hc
   ·exact .inl (KS ..)
   ·rcases h1 c hc with h | h
    ·exact .inl (Km _ h)
    ·exact .inr h
theorem Zjr {base:Nat}:∀ {cs:List AV},XY cs=true→cs.map (Zdf base)=cs
 | [],_=>rfl
 | c :: cs,h=>by
  simp only[XY,Kb] at h;rw[Ky,Zjr h.2];congr 1
  cases c<;>first | rfl | (simp[JE] at h)
theorem Zjs:∀ {cs:List AV},XY cs=true→QW cs=true
 | [],_=>rfl
 | c :: cs,h=>by
  simp only[XY,Kb] at h;have:=Zjs h.2;cases c<;>first | exact this | (simp[JE] at h)
theorem ZfG {slc:List (Option Nat)} {cs:List AV} {ce:Zb} (hb:∀ k,base≤k→k<base+64→k∉g) (hc:XY cs=true) (h:ZbH slc base cs=some ce) (ad:Qy base (base+64) ce.eff.adds=true) :
  (∀ id∈Zn ce.eff.val,id∉g)∧∀ k o,(k,o)∈ce.eff.adds→QH g o=o:=by
 have hr:=Vx ad;unfold ZbH at h;rw[Zjr hc] at h;unfold Zhi at h;rw[Ko (by rw[Zjs hc];decide)] at h;split at h
 ·cases h;simp only at hr ⊢;obtain⟨h1,h2⟩:=ZeJ slc cs (base+1);refine⟨fun id aa=>?_,fun k o hm=>?_⟩
  ·simp[Zn,Zq,Zf] at aa;subst aa;exact hb _ (Kf _) (by omega)
  ·rcases Ke.1 hm with hm | hm
   ·cases hm;simp only[QH];congr 1
    rw[KB (g:=id),K8];intro c ab;rcases h1 c ab with h | ⟨k,o,rfl,h⟩
    ·exact ZfF (Zao hc c h)
    ·have:=hr k o (Km _ h);have hk:=hb k this.1 this.2;simp[ZD,ZS,hk]
   ·obtain⟨sz,rfl⟩:=h2 k o hm;rfl
 ·cases h;simp only at hr ⊢;refine⟨fun id aa=>?_,fun k o hm=>?_⟩
  ·simp[Zn,Zq,Zf] at aa;subst aa;exact hb _ (Kf _) (by omega)
  ·simp at hm;obtain⟨rfl,rfl⟩:=hm;simp only[QH];congr 1
   rw[KB (g:=id),K8];exact fun c ab=>ZfF (Zao hc c ab)
theorem Zpj {c:COp} (hc:Zhx c=true) (he:∀ x∈Zt c,evO sl' x=evO sl x) (hs:∀ x∈Zt c,ZdW g hp hp' (evO sl x)) {ce:Zb}
  (hb:∀ k,base≤k→k<base+64→k∉g) (h:vop C M sl hp base c=some ce) (ab:Qy base (base+64) ce.eff.adds=true) (ad:ce.eff.frz=[]) (ho:okV ce.eff.val=true) (hk:kill g ce.eff.val=ce.eff.val):vop C M sl' hp' base c=some ce∧∀ k o,(k,o)∈ce.eff.adds→QH g o=o:=by
 rw[QB C M hp' base he];have aa:ce.eff.adds=[]→∀ k o,(k,o)∈ce.eff.adds→QH g o=o:=fun e k o hm=>by rw[e] at hm;simp at hm
 simp only[Zhx,K9,Kb] at hc;rcases hc with ((hc | hc) | ⟨hc1,hc2⟩) | hc
 ·cases c<;>simp only[VU,Ka] at hc<;>simp only[vop] at h ⊢ <;> simp only[Zt] at hs
  case load a s x=>exact⟨Zoo h (Zph (hs x (by simp)) (WN h) ho hk),aa (Qr h)⟩
  case slice s x lo hi=>
   rw[Zbt (hs x (by simp))];exact⟨h,aa (Qr h)⟩
  case slice0 x hi mx=>
   unfold slice0 at h ⊢;rw[JW (hs x (by simp))];exact⟨h,aa (Qr h)⟩
  case iaS s x i=>
   obtain⟨n,h1,h⟩:=Za h;rw[h1,Zc];unfold ZcU at h ⊢;rw[W2 (hs x (by simp))];refine⟨h,aa ?_⟩;split at h
   ·exact Qr h
   ·cases h
  case len x=>
   rw[JW (hs x (by simp))];refine⟨h,aa ?_⟩;obtain⟨n,_,h⟩:=Za h;exact ZR h
 ·cases c<;>simp only[ZjI,Ka] at hc
  simp only[vop] at h ⊢;obtain⟨h1,h2,h3⟩:=ZcP h ad hp';refine⟨h1,fun k o hm=>?_⟩;obtain⟨sz,xs,e,f,rfl⟩:=h3 k o hm;rfl
 ·rw[← ZdX (hp:=hp) hc1];exact⟨h,aa (Zno hc1 hc2 h)⟩
 ·cases c<;>simp only[Zgr,Ka] at hc
  simp only[vop] at h ⊢;exact⟨h,(ZfG hb hc h ab).2⟩
theorem Znp {c:COp} (hc:Zec c=true) (he:∀ x∈Zt c,evO sl' x=evO sl x) (hs:∀ x∈Zt c,ZdW g hp hp' (evO sl x)) {ce:Zb}
  (hn:∀ x∈Zt c,∀ id∈Zn (evO sl x),id∉g) (hb:∀ k,base≤k→k<base+64→k∉g)
  (h:vop C M sl' hp' base c=some ce) (ad:Qy base (base+64) ce.eff.adds=true) (ae:ce.eff.frz=[]) (ho:okV ce.eff.val=true):vop C M sl hp base c=some ce∧kill g ce.eff.val=ce.eff.val∧∀ k o,(k,o)∈ce.eff.adds→QH g o=o:=by
 rw[QB C M hp' base he] at h;have aa:ce.eff.adds=[]→∀ k o,(k,o)∈ce.eff.adds→QH g o=o:=fun e k o hm=>by rw[e] at hm;simp at hm
 have names:(∀ id∈Zn ce.eff.val,id∉g)→kill g ce.eff.val=ce.eff.val:=Zon ho;cases c<;>simp only[Zec,Ka] at hc<;>simp only[vop] at h ⊢ <;> simp only[Zt] at hs hn
 case alloc slc cs=>
  obtain⟨h1,h2⟩:=ZfG hb hc h ad;exact⟨h,names h1,h2⟩
 case buildSl s xs=>
  obtain⟨h1,h2,h3⟩:=ZcP h ae hp;refine⟨h1,names fun id ab=>?_,fun k o hm=>?_⟩
  ·rcases h2 with h2 | h2
   ·rw[h2] at ab;simp[Zn,Zq,Zf] at ab
   ·rw[h2] at ab;simp[Zn,Zq,Zf] at ab;subst ab;exact hb _ (Kf _) (by omega)
  ·obtain⟨sz,xs,e,f,rfl⟩:=h3 k o hm;rfl
 case load a s x=>
  obtain⟨h1,h2⟩:=Zpi (hs x (by simp)) (WN h) ho;exact⟨Zoo h h1,h2,aa (Qr h)⟩
 case nilCheck x=>
  have hx:=hn x (by simp);refine⟨h,names ?_,aa ?_⟩
  ·unfold Wq at h;split at h<;>rename_i hv<;>first | (cases h;done) | (cases h;show ∀ id∈Zn _,_;rw[← hv];exact hx)
  ·unfold Wq at h;split at h<;>first | exact ZR h | cases h
 case bin op eq x y=>
  have hd:∃ d,ce.eff.val=.d d:=by
   have o2:∀ {a b:AV},X9 (vbin op a b)=some ce→∃ d,ce.eff.val=.d d:=fun {a b} h=>by
    have h1:=WN h;unfold vbin at h1;split at h1
    ·unfold Wl at h1;split at h1
     ·obtain⟨y,_,h1⟩:=Za h1;exact⟨_,(Option.some.inj h1).symm⟩
     ·obtain⟨y,_,h1⟩:=Za h1;exact⟨_,(Option.some.inj h1).symm⟩
     ·split at h1
      ·obtain⟨y,_,h1⟩:=Za h1;have:=Option.some.inj h1;exact⟨_,this.symm⟩
      ·cases h1
    ·obtain⟨y,_,h1⟩:=Za h1;have:=Option.some.inj h1;exact⟨_,this.symm⟩
    ·cases h1
   unfold Zhk at h;split at h
   ·split at h
    ·have h1:=WN h;unfold Zje at h1;split at h1
     ·exact⟨_,(Option.some.inj h1).symm⟩
     ·exact⟨_,(Option.some.inj h1).symm⟩
     ·cases h1
    ·cases h
   ·exact o2 h
  obtain⟨d,hd⟩:=hd;refine⟨h,by rw[hd];rfl,aa ?_⟩;unfold Zhk at h;split at h
  ·split at h
   ·exact Qr h
   ·cases h
  ·exact Qr h
 case un op x=>
  have hd:∃ d,ce.eff.val=.d d:=by
   have h1:=WN h;unfold vun at h1;split at h1
   ·unfold neg1 at h1;split at h1
    ·exact⟨_,(Option.some.inj h1).symm⟩
    ·cases h1
   ·unfold not1 at h1;split at h1
    ·exact⟨_,(Option.some.inj h1).symm⟩
    ·cases h1
   ·cases h1
  obtain⟨d,hd⟩:=hd;exact⟨h,by rw[hd];rfl,aa (Qr h)⟩
 case convI k x=>
  unfold Go.Abs.convI at h ⊢;split at h
  ·exact⟨h,by cases h;rfl,aa (ZR h)⟩
  ·cases h
 case shift off x=>
  have hx:=hn x (by simp);refine⟨h,names ?_,aa ?_⟩
  ·unfold Yu at h;split at h<;>rename_i hv<;>first | (cases h;done) | skip
   ·cases h;rw[hv] at hx;simpa [Zn,Zq,Zf] using hx
   ·cases h;rw[hv] at hx;simpa [Zn,Zq,Zf] using hx
   ·cases h;simp[Zn,Zq,Zf]
  ·unfold Yu at h;split at h<;>first | exact ZR h | cases h
 case slice s x lo hi=>
  have hx:=hn x (by simp);rw[Zbt (hs x (by simp))] at h;refine⟨h,names ?_,aa (Qr h)⟩;have h1:=WN h;cases hv:evO sl x<;>rw[hv] at h1 hx<;>simp only[X8] at h1<;>first | (cases h1;done) | skip
  case d y=>
   cases y<;>simp only[X8] at h1<;>first | (cases h1;done) | skip
   split at h1
   ·obtain⟨b,_,h1⟩:=Za h1;rw[← Option.some.inj h1];simp[Zn,Zq,Zf]
   ·cases h1
  case nil=>obtain⟨b,_,h1⟩:=Za h1;rw[← Option.some.inj h1];simp[Zn,Zq,Zf]
  case own id=>
   unfold UB at h1;split at h1
   ·split at h1
    ·unfold ZlW at h1;split at h1
     ·rw[← Option.some.inj h1];exact hx
     ·obtain⟨b,_,h1⟩:=Za h1;rw[← Option.some.inj h1];simpa [Zn,Zq,Zf] using hx
    ·cases h1
   ·cases h1
  case ownv id off n=>
   unfold Wp at h1;split at h1
   ·split at h1
    ·obtain⟨b,_,h1⟩:=Za h1;rw[← Option.some.inj h1];simpa [Zn,Zq,Zf] using hx
    ·cases h1
   ·cases h1
 case sliceS x lo hi=>
  have hd:∃ d,ce.eff.val=.d d:=by
   have h1:=WN h;unfold sliceS at h1;split at h1
   ·obtain⟨b,_,h1⟩:=Za h1;exact⟨_,(Option.some.inj h1).symm⟩
   ·cases h1
  obtain⟨d,hd⟩:=hd;exact⟨h,by rw[hd];rfl,aa (Qr h)⟩
 case lenS x=>
  obtain⟨n,h1,h⟩:=Za h;refine⟨by rw[h1,Zc];exact h,by cases h;rfl,aa (ZR h)⟩
 case iaS s x i=>
  have hx:=hn x (by simp);obtain⟨n,h1,h⟩:=Za h;rw[h1,Zc];unfold ZcU at h ⊢;rw[W2 (hs x (by simp))] at h;refine⟨h,names ?_,aa ?_⟩
  ·split at h
   ·have h1:=WN h;cases hv:evO sl x<;>rw[hv] at h1 hx<;>simp only[Qg] at h1<;>first | (cases h1;done) | skip
    case d y=>
     cases y<;>simp only[Qg] at h1<;>first | (cases h1;done) | skip
     obtain⟨b,_,h1⟩:=Za h1;unfold Zoy at h1;split at h1
     ·rw[← Option.some.inj h1];simp[Zn,Zq,Zf]
     ·cases h1
    case own id=>
     unfold Jh at h1;split at h1
     ·split at h1
      ·rw[← Option.some.inj h1];simpa [Zn,Zq,Zf] using hx
      ·cases h1
     ·split at h1
      ·rw[← Option.some.inj h1];simpa [Zn,Zq,Zf] using hx
      ·cases h1
     ·cases h1
    case ownv id off n=>
     unfold UA at h1;split at h1
     ·split at h1
      ·rw[← Option.some.inj h1];simpa [Zn,Zq,Zf] using hx
      ·cases h1
     ·cases h1
   ·cases h
  ·split at h
   ·exact Qr h
   ·cases h
 case len x=>
  rw[JW (hs x (by simp))] at h;obtain⟨n,h1,h2⟩:=Za h;exact⟨h,by cases h2;rfl,aa (ZR h2)⟩
end
end Go.Abs
