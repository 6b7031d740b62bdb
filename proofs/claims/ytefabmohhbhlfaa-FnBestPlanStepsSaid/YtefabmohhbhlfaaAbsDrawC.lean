/- Own text. -/
import Derived.Test.YtefabmohhbhlfaaAbsDraw3
import Derived.Test.YtefabmohhbhlfaaAbsSound5
set_option linter.unusedVariables false
set_option linter.unusedSimpArgs false
namespace Go.Abs
open Go
theorem Zp7 {v:AV} (h:okC v=true):okV v=true:=by
 cases v<;>first | exact h | cases h
theorem Zf5 {g:List Nat} {v:AV} (h:okC (ZW g v)=true):ZW g v=v:=by
 cases v<;>simp only[ZW] at h ⊢ <;> first | rfl | (split at h<;>rename_i h' <;> first | (cases h;done) | rw[Kl h'])
theorem Zef {g:List Nat}:∀ {cs:List AV},ZmL (cs.map (ZW g))=true→cs.map (ZW g)=cs
 | [],_=>rfl
 | c :: cs,h=>by
  simp only[Kn,ZmL,Kb] at h ⊢;rw[Zf5 h.1,Zef h.2]
theorem Za3 {g:List Nat} {v:AV} (h:okV (ZH g v)=true):ZH g v=v:=by
 cases v with
 | agg cs=>simp only[ZH,okV] at h ⊢;rw[Zef h]
 | clo f cs=>simp only[ZH,okV,okC] at h;cases h
 | tup vs=>rfl
 | _=>
  simp only[ZH] at h ⊢;refine Zf5 ?_;revert h;simp only[ZW]
  first | exact id | (split<;>first | exact id | (intro h;cases h))
theorem JG {g:List Nat} {v:AV} (h:okV (kill g v)=true):kill g v=v:=by
 cases v with
 | tup vs=>
  cases vs with
  | nil=>rfl
  | cons x r=>simp only[kill,Kn,okV,okC] at h;cases h
 | _=>simp only[kill] at h ⊢;exact Za3 h
theorem ZnE {g:List Nat} {v:AV} (hn:∀ id∈Ze v,id∉g):ZW g v=v:=by
 cases v<;>simp only[ZW]<;>first | rfl | (rw[Kl];simpa [Ze] using hn)
theorem Zp8 {g:List Nat} {v:AV} (h:okV v=true) (hn:∀ id∈Zo v,id∉g):kill g v=v:=by
 cases v with
 | tup vs=>
  cases vs with
  | nil=>rfl
  | cons x r=>simp only[okV,okC] at h;cases h
 | clo f cs=>simp only[okV,okC] at h;cases h
 | agg cs=>
  simp only[kill,ZH];congr 1
  rw[Kx (g:=id),LA];intro c hc;exact ZnE fun id aa=>hn id (by simp only[Zo,Zp,Kr];exact⟨c,hc,aa⟩)
 | _=>simp only[kill,ZH];exact ZnE hn
theorem ZsF {g:List Nat} {v:AV} (h:kill g v=v):∀ id∈Zo v,id∉g:=fun id aa=>(ZkZ g v id (by rw[h];exact aa)).2
theorem Zre {g:List Nat} {c:AV} (h:okC c=true) (h1:ZW g c=c):ZH g c=c:=by
 cases c<;>simp only[ZH]<;>first | exact h1 | cases h
def JH (g:List Nat):Option Zg→Option Zg→Prop
 | none,none=>True
 | some (.row s xs _ _),some (.row s' xs' _ _)=>s'=s∧xs'=xs
 | some (.box cs),some (.box cs')=>cs'=cs.map (ZH g)
 | some (.tree s n xs l),some (.tree s' n' xs' l')=>s'=s∧n'=n∧xs'=xs∧l'=Ve g l
 | some .gone,some .gone=>True
 | _,_=>False
theorem ZnF {g:List Nat} {b:Bool} (o:Option Zg):JH g o ((o.map (QU g)).map fun o=>if b then Yl o else o):=by
 cases o with
 | none=>trivial
 | some o=>cases o<;>cases b<;>exact(by first | exact⟨rfl,rfl⟩ | exact rfl | exact⟨rfl,rfl,rfl,rfl⟩ | exact trivial)
theorem Zlb {g:List Nat}:∀ {l:List AV} {ds:List D},J6 l=some ds→l.map (ZH g)=l
 | [],ds,_=>rfl
 | v :: l,ds,h=>by
  simp only[J6] at h;obtain⟨x,h1,h⟩:=Za h;obtain⟨aa,h2,h⟩:=Za h;have:ZH g v=v:=by cases v<;>first | rfl | cases h1
  rw[Kn,this,Zlb h2]
theorem Zja {g:List Nat}:∀ {l:List AV} {ds:List D},J6 (l.map (ZH g))=some ds→l.map (ZH g)=l
 | [],ds,_=>rfl
 | v :: l,ds,h=>by
  simp only[Kn,J6] at h;obtain⟨x,h1,h⟩:=Za h;obtain⟨aa,h2,h⟩:=Za h;have hv:ZH g v=v:=by
   refine Za3 ?_;cases hk:ZH g v<;>rw[hk] at h1<;>first | rfl | cases h1
  rw[Kn,hv,Zja h2]
theorem Zcr (l:List AV):(∃ ds,J6 l=some ds∧WO l=.d (.agg ds))∨(J6 l=none∧(WO l=.junk∨WO l=.agg l)):=by
 unfold WO;cases h:J6 l with
 | some ds=>exact .inl ⟨ds,rfl,rfl⟩
 | none=>
  refine .inr ⟨rfl,?_⟩;unfold We;split
  ·rename_i h;cases h
  ·split
   ·exact .inl rfl
   ·exact .inr rfl
theorem Ze4:∀ {l:List AV},ZmL l=true→∀ c∈l,okC c=true
 | [],_,c,hc=>by simp at hc
 | x :: l,h,c,hc=>by
  simp only[ZmL,Kb] at h;rcases Ke.1 hc with rfl | hc
  ·exact h.1
  ·exact Ze4 h.2 c hc
theorem Zrf {g:List Nat} {l:List AV} (h:okV (WO l)=true) (hk:kill g (WO l)=WO l):l.map (ZH g)=l:=by
 rcases Zcr l with ⟨ds,h1,h2⟩ | ⟨h1,h2 | h2⟩
 ·exact Zlb h1
 ·rw[h2] at h;cases h
 ·rw[h2] at h hk;simp only[kill,ZH,AV.agg.injEq] at hk;simp only[okV] at h;have hm:=Ze4 h;have aa : ∀ c∈l,ZW g c=c:=by
   intro c hc;have:=Zef (g:=g) (cs:=l) (by rw[hk];exact h);exact Zf5 (by
    have h3:ZW g c∈l.map (ZW g):=List.mem_map_of_mem hc;rw[hk] at h3;exact hm _ h3)
  rw[Kx (g:=id),LA];intro c hc;exact Zre (hm c hc) (aa c hc)
theorem Zrg {g:List Nat} {l:List AV} (h:okV (WO (l.map (ZH g)))=true):l.map (ZH g)=l:=by
 rcases Zcr (l.map (ZH g)) with ⟨ds,h1,h2⟩ | ⟨h1,h2 | h2⟩
 ·exact Zja h1
 ·rw[h2] at h;cases h
 ·rw[h2] at h;simp only[okV] at h;have hm:=Ze4 h;rw[Kx (g:=id),LA];intro c hc;exact Za3 (Zp7 (hm _ (List.mem_map_of_mem hc)))
theorem ZoY {g:List Nat} {v:AV} (h:okV v=true) (hk:kill g v=v):ZH g v=v:=by
 cases v with
 | tup vs=>rfl
 | _=>simp only[kill] at hk;exact hk
theorem ZoZ {g:List Nat} {v:AV} (h:okV v=true) (hk:ZH g v=v):kill g v=v:=by
 cases v with
 | tup vs=>
  cases vs with
  | nil=>rfl
  | cons x r=>simp only[okV,okC] at h;cases h
 | _=>simp only[kill];exact hk
theorem ZdO {α β:Type} (f:α→β) (l:List α) (a b:Nat):((l.map f).drop a).take b=((l.drop a).take b).map f:=by
 rw[← List.map_drop,← List.map_take]
theorem ZgQ (g:List Nat) (c:AV):Ze8 (ZH g c)=ZH g (Ze8 c):=by
 have aa:∀ v:AV,(∀ a b,v≠.bbuf a b)→Ze8 v=v:=fun v h'=>by cases v<;>first | rfl | exact absurd rfl (h' _ _)
 by_cases h' : ∃ a b,c=.bbuf a b
 ·obtain⟨a,b,rfl⟩:=h';rfl
 ·have h2:∀ a b,c≠.bbuf a b:=fun a b e=>h' ⟨a,b,e⟩;rw[aa c h2,aa];exact fun a b e=>h2 a b ((Wl g c a b).1 e)
theorem ZnG {g:List Nat} {cs:List AV} {a:Bool} {s off:Nat} {v:AV} (h:UF a s off (some (.box cs))=some v) (ho:okV v=true) (hk:kill g v=v):UF a s off (some (.box (cs.map (ZH g))))=some v:=by
 unfold UF at h ⊢;cases a with
 | true=>
  simp only[Kg] at h ⊢;split at h
  ·rename_i hl;cases h;rw[Km (by simpa using hl),ZdO,Zrf ho hk]
  ·cases h
 | false=>
  simp only[Ka,Kf] at h ⊢;obtain⟨c,hc,rfl⟩:=Option.map_eq_some_iff.1 h;rw[Lo,hc];simp only[KU];rw[ZgQ,ZoY ho hk]
theorem ZnH {g:List Nat} {cs:List AV} {a:Bool} {s off:Nat} {v:AV} (h:UF a s off (some (.box (cs.map (ZH g))))=some v) (ho:okV v=true):UF a s off (some (.box cs))=some v∧kill g v=v:=by
 unfold UF at h ⊢;cases a with
 | true=>
  simp only[Kg] at h ⊢;split at h
  ·rename_i hl;cases h;rw[ZdO] at ho ⊢;have he:=Zrg ho;rw[he] at ho ⊢;refine⟨by rw[Km (by simpa using hl)],?_⟩;rcases Zcr ((cs.drop off).take s) with ⟨ds,h1,h2⟩ | ⟨h1,h2 | h2⟩
   ·rw[h2];rfl
   ·rw[h2] at ho;cases ho
   ·rw[h2] at ho ⊢;simp only[okV] at ho;have hm:=Ze4 ho;simp only[kill,ZH,AV.agg.injEq];rw[Kx (g:=id),LA];intro c hc;have h3:ZH g c=c:=by
     refine Za3 ?_;have h4:ZH g c∈((cs.drop off).take s).map (ZH g):=List.mem_map_of_mem hc;rw[he] at h4;exact Zp7 (hm _ h4)
    have:=hm c hc;cases c<;>first | exact h3 | cases this
  ·cases h
 | false=>
  simp only[Ka,Kf] at h ⊢;rw[Lo] at h;cases hc:cs[off]? with
  | none=>rw[hc] at h;cases h
  | some c=>
   rw[hc] at h;simp only[KU,Option.some.injEq] at h;rw[ZgQ] at h;have h3:ZH g (Ze8 c)=Ze8 c:=Za3 (by rw[h];exact ho);rw[h3] at h;subst h;exact⟨rfl,ZoZ ho h3⟩
theorem Zo0 {g:List Nat} {o o' : Option Zg} (h:JH g o o'):VF o'=VF o:=by
 cases o with
 | none=>cases o' with
  | none=>rfl
  | some o'=>cases h
 | some o=>cases o' with
  | none=>cases o<;>cases h
  | some o' =>
   have tr:∀ s n xs l,VF (some (.tree s n xs (Ve g l)))=VF (some (.tree s n xs l)):=by
    intro s n xs l;rcases l with _ | ⟨_ | nm,_⟩
    ·rfl
    ·rfl
    ·simp only[Ve];split<;>rfl
   cases o<;>cases o' <;> simp only[JH] at h<;>first | (cases h;done) | rfl | (obtain⟨rfl,rfl⟩:=h;rfl) | (obtain⟨rfl,rfl,rfl,rfl⟩:=h;exact tr _ _ _ _)
theorem JI {g:List Nat} {o o' : Option Zg} (h:JH g o o'):(∃ s xs e f e' f',o=some (.row s xs e f)∧o'=some (.row s xs e' f'))∨(o=none∧o'=none)∨(∃ cs,o=some (.box cs)∧o'=some (.box (cs.map (ZH g))))∨(o=some .gone∧o'=some .gone)∨(∃ s n xs l,o=some (.tree s n xs l)∧o'=some (.tree s n xs (Ve g l))):=by
 cases o with
 | none=>cases o' with
  | none=>exact .inr (.inl ⟨rfl,rfl⟩)
  | some o'=>cases h
 | some o=>cases o' with
  | none=>cases o<;>cases h
  | some o' =>
   cases o with
   | box cs=>cases o' with
    | box cs'=>simp only[JH] at h;subst h;exact .inr (.inr (.inl ⟨cs,rfl,rfl⟩))
    | row _ _ _ _=>cases h
    | gone=>cases h
    | tree _ _ _ _=>cases h
   | row s xs e f=>cases o' with
    | box cs'=>cases h
    | row s' xs' e' f'=>simp only[JH] at h;obtain⟨rfl,rfl⟩:=h;exact .inl ⟨_,_,_,_,_,_,rfl,rfl⟩
    | gone=>cases h
    | tree _ _ _ _=>cases h
   | gone=>cases o' with
    | box cs'=>cases h
    | row _ _ _ _=>cases h
    | gone=>exact .inr (.inr (.inr (.inl ⟨rfl,rfl⟩)))
    | tree _ _ _ _=>cases h
   | tree s n xs l=>cases o' with
    | box cs'=>cases h
    | row _ _ _ _=>cases h
    | gone=>cases h
    | tree s' n' xs' l'=>simp only[JH] at h;obtain⟨rfl,rfl,rfl,rfl⟩:=h;exact .inr (.inr (.inr (.inr ⟨_,_,_,_,rfl,rfl⟩)))
section
variable {g:List Nat} {o o' : Option Zg}
theorem Zmo (h:JH g o o') (sz id n:Nat):Zai sz id n o'=Zai sz id n o:=by
 rcases JI h with ⟨s,xs,e,f,e',f',rfl,rfl⟩ | ⟨rfl,rfl⟩ | ⟨cs,rfl,rfl⟩ | ⟨rfl,rfl⟩ | ⟨s,n,xs,l,rfl,rfl⟩<;>rfl
theorem ZkG (h:JH g o o') (sz id off m n:Nat):JO sz id off m n o'=JO sz id off m n o:=by
 rcases JI h with ⟨s,xs,e,f,e',f',rfl,rfl⟩ | ⟨rfl,rfl⟩ | ⟨cs,rfl,rfl⟩ | ⟨rfl,rfl⟩ | ⟨s,n,xs,l,rfl,rfl⟩<;>rfl
theorem ZkH (h:JH g o o') (s id:Nat) (lo hi:Option AV):JP s id lo hi o'=JP s id lo hi o:=by
 rcases JI h with ⟨s,xs,e,f,e',f',rfl,rfl⟩ | ⟨rfl,rfl⟩ | ⟨cs,rfl,rfl⟩ | ⟨rfl,rfl⟩ | ⟨s,n,xs,l,rfl,rfl⟩<;>rfl
theorem Zjb (h:JH g o o') (s id off n:Nat) (lo hi:Option AV):Up s id off n lo hi o'=Up s id off n lo hi o:=by
 rcases JI h with ⟨s,xs,e,f,e',f',rfl,rfl⟩ | ⟨rfl,rfl⟩ | ⟨cs,rfl,rfl⟩ | ⟨rfl,rfl⟩ | ⟨s,n,xs,l,rfl,rfl⟩<;>rfl
theorem Zmp {i off:Nat} {l:Option (Option Nat×Nat×Nat)} {x:D} {v:AV} (h:WV i off l x=some v) (hk:kill g v=v):WV i off (Ve g l) x=some v:=by
 unfold WV at h ⊢;split at h
 ·unfold ZgZ at h;split at h
  ·rename_i nm i' c;split at h
   ·rename_i hc;cases h;have:g.contains nm=false:=by
     cases hg:g.contains nm with
     | false=>rfl
     | true=>simp only[kill,ZH,ZW,hg,Kg] at hk;cases hk
    simp only[Ve,this,Ka,Kf,ZgZ,hc,and_self,Kg]
   ·cases h
  ·cases h
 ·exact h
 ·cases h
theorem Zmq {i off:Nat} {l:Option (Option Nat×Nat×Nat)} {x:D} {v:AV} (h:WV i off (Ve g l) x=some v):WV i off l x=some v∧kill g v=v:=by
 unfold WV at h ⊢;split at h
 ·unfold ZgZ at h;split at h
  ·rename_i nm i' c hl;split at h
   ·rename_i hc;cases h;unfold Ve at hl;split at hl
    ·rename_i ab q;split at hl
     ·cases hl
     ·rename_i hg;cases hl;simp only[Kab] at hg;exact⟨by simp only[ZgZ,hc,and_self,Kg],by simp only[kill,ZH,ZW,hg,Ka,Kf]⟩
    ·rename_i aa;subst hl;exact absurd rfl (aa _ _)
   ·cases h
  ·cases h
 ·split at h
  ·rename_i hp;cases h;exact⟨by rw[Km hp],rfl⟩
  ·cases h
 ·cases h
theorem Ze5 {id:Nat} (h:JH g o o') {a:Bool} {s sz i off:Nat} {v:AV}:(WW id a s sz i off o=some v→kill g v=v→WW id a s sz i off o'=some v)∧(WW id a s sz i off o'=some v→WW id a s sz i off o=some v∧kill g v=v):=by
 have aa:∀ {cs:List D},JM a s off cs=some v→∃ d,v=.d d:=by
  intro cs h;unfold JM at h;split at h
  ·split at h
   ·cases h;exact⟨_,rfl⟩
   ·cases h
  ·unfold asD at h;obtain⟨y,_,h⟩:=Za h;cases h;exact⟨_,rfl⟩
 rcases JI h with ⟨s,xs,e,f,e',f',rfl,rfl⟩ | ⟨rfl,rfl⟩ | ⟨cs,rfl,rfl⟩ | ⟨rfl,rfl⟩ | ⟨s,n,xs,l,rfl,rfl⟩
 ·refine⟨fun h _=>h,fun h=>⟨h,?_⟩⟩;simp only[WW] at h;split at h
  ·obtain⟨x,_,h⟩:=Za h;unfold Ze9 at h;split at h
   ·obtain⟨d,rfl⟩:=aa h;rfl
   ·cases h
  ·cases h
 ·exact⟨fun h _=>(by cases h),fun h=>(by cases h)⟩
 ·exact⟨fun h _=>(by cases h),fun h=>(by cases h)⟩
 ·exact⟨fun h _=>(by cases h),fun h=>(by cases h)⟩
 ·simp only[WW];split
  ·split
   ·exact⟨fun h _=>(by cases h),fun h=>(by cases h)⟩
   ·constructor
    ·intro hh hk;obtain⟨x,h1,hh⟩:=Za hh;rw[h1,Zc];exact Zmp hh hk
    ·intro hh;obtain⟨x,h1,hh⟩:=Za hh;rw[h1,Zc];exact Zmq hh
  ·exact⟨fun h _=>(by cases h),fun h=>(by cases h)⟩
end
section
variable {hp hp' : Hp} {g:List Nat}
def Ze6 (g:List Nat) (hp hp' : Hp) (v:AV):Prop:=∀ k∈Zo v,JH g (lkp hp k) (lkp hp' k)
theorem Za4 {v:AV} (h:Ze6 g hp hp' v):ZaE hp' v=ZaE hp v:=by
 cases v<;>simp only[ZaE]
 case d x=>cases x<;>rfl
 case own id=>rw[Zo0 (h id (by simp[Zo,Zp,Ze]))]
theorem UZ {v:AV} (h:Ze6 g hp hp' v) (sz n:Nat):Qk hp' sz n v=Qk hp sz n v:=by
 cases v<;>simp only[Qk]
 case d x=>cases x<;>rfl
 case own id=>rw[Zmo (h id (by simp[Zo,Zp,Ze]))]
 case ownv id off n=>rw[ZkG (h id (by simp[Zo,Zp,Ze]))]
theorem Zcs {v:AV} (h:Ze6 g hp hp' v) (s:Nat) (lo hi:Option AV):YP hp' s lo hi v=YP hp s lo hi v:=by
 cases v<;>simp only[YP]
 case d x=>cases x<;>rfl
 case own id=>rw[ZkH (h id (by simp[Zo,Zp,Ze]))]
 case ownv id off n=>rw[Zjb (h id (by simp[Zo,Zp,Ze]))]
theorem Zrh {x v:AV} (hs:Ze6 g hp hp' x) {a:Bool} {s:Nat} (h:Wa hp a s x=some v) (ho:okV v=true) (hk:kill g v=v):Wa hp' a s x=some v:=by
 cases x<;>simp only[Wa] at h ⊢ <;> first | (cases h;done) | skip
 case ptr id off=>
  rcases JI (hs id (by simp[Zo,Zp,Ze])) with ⟨_,_,_,_,_,_,e1,e2⟩ | ⟨e1,e2⟩ | ⟨cs,e1,e2⟩ | ⟨e1,e2⟩ | ⟨_,_,_,_,e1,e2⟩
  ·rw[e1] at h;cases h
  ·rw[e1] at h;cases h
  ·rw[e1] at h;rw[e2];exact ZnG h ho hk
  ·rw[e1] at h;cases h
  ·rw[e1] at h;cases h
 case prow id sz i off=>exact(Ze5 (hs id (by simp[Zo,Zp,Ze]))).1 h hk
 case pim cs=>exact h
theorem ZsG {a:Bool} {s off:Nat} {cs:List D} {v:AV} (h:JM a s off cs=some v):∃ d,v=.d d:=by
 unfold JM at h;split at h
 ·split at h
  ·cases h;exact⟨_,rfl⟩
  ·cases h
 ·unfold asD at h;obtain⟨y,_,h⟩:=Za h;cases h;exact⟨_,rfl⟩
theorem Zri {x v:AV} (hs:Ze6 g hp hp' x) {a:Bool} {s:Nat} (h:Wa hp' a s x=some v) (ho:okV v=true):Wa hp a s x=some v∧kill g v=v:=by
 cases x<;>simp only[Wa] at h ⊢ <;> first | (cases h;done) | skip
 case ptr id off=>
  rcases JI (hs id (by simp[Zo,Zp,Ze])) with ⟨_,_,_,_,_,_,e1,e2⟩ | ⟨e1,e2⟩ | ⟨cs,e1,e2⟩ | ⟨e1,e2⟩ | ⟨_,_,_,_,e1,e2⟩
  ·rw[e2] at h;cases h
  ·rw[e2] at h;cases h
  ·rw[e2] at h;rw[e1];exact ZnH h ho
  ·rw[e2] at h;cases h
  ·rw[e2] at h;cases h
 case prow id sz i off=>
  exact(Ze5 (hs id (by simp[Zo,Zp,Ze]))).2 h
 case pim cs=>
  obtain⟨d,rfl⟩:=ZsG h;exact⟨h,rfl⟩
theorem ZgR {x:AV} {d:D} {e:Bool} (h:U7 hp x=some (d,e,[])) (hp' : Hp):U7 hp' x=some (d,e,[]):=by
 cases x<;>simp only[U7] at h ⊢ <;> first | exact h | skip
 case own id=>obtain⟨q,_,h⟩:=Za h;simp at h
theorem ZgS:∀ {xs:List AV} {d:List D} {e:Bool},YS hp xs=some (d,e,[])→∀ hp' : Hp,YS hp' xs=some (d,e,[])
 | [],d,e,h,hp'=>h
 | x :: xs,d,e,h,hp'=>by
  simp only[YS] at h ⊢;obtain⟨⟨d1,e1,l1⟩,h1,h⟩:=Za h;obtain⟨⟨d2,e2,l2⟩,h2,h⟩:=Za h;have hl:l1=[]∧l2=[]:=by
   simp only at h;split at h
   ·simp only[Option.some.injEq,Prod.mk.injEq,List.append_eq_nil_iff] at h;exact h.2.2
   ·cases h
  obtain⟨rfl,rfl⟩:=hl;rw[ZgR h1 hp',Zc,ZgS h2 hp',Zc];exact h
theorem Zo1 {x:AV} {d:D} {e:Bool} (h:give hp x=some (d,e,[])) (hp' : Hp):give hp' x=some (d,e,[]):=by
 cases x<;>simp only[give] at h ⊢ <;> first | exact ZgR h hp' | skip
 case agg cs=>
  obtain⟨⟨d1,e1,l1⟩,h1,h⟩:=Za h;simp only[Option.some.injEq,Prod.mk.injEq] at h;obtain⟨rfl,rfl,rfl⟩:=h;rw[ZgS h1 hp',Zc]
theorem ZdP:∀ {xs:List AV} {d:List D} {e:Bool},VG hp xs=some (d,e,[])→∀ hp' : Hp,VG hp' xs=some (d,e,[])
 | [],d,e,h,hp'=>h
 | x :: xs,d,e,h,hp'=>by
  simp only[VG] at h ⊢;obtain⟨⟨d1,e1,l1⟩,h1,h⟩:=Za h;obtain⟨⟨d2,e2,l2⟩,h2,h⟩:=Za h;have hl:l1=[]∧l2=[]:=by
   simp only at h;split at h
   ·simp only[Option.some.injEq,Prod.mk.injEq,List.append_eq_nil_iff] at h;exact h.2.2
   ·cases h
  obtain⟨rfl,rfl⟩:=hl;rw[Zo1 h1 hp',Zc,ZdP h2 hp',Zc];exact h
theorem ZdQ {base s:Nat} {vs:List AV} {ce:Zb} (h:buildSl hp base s vs=some ce) (hf:ce.eff.frz=[]) (hp' : Hp) :
  buildSl hp' base s vs=some ce∧(ce.eff.val=.nil∨ce.eff.val=.own base)∧(∀ k o,(k,o)∈ce.eff.adds→∃ sz xs e f,o=.row sz xs e f):=by
 cases vs with
 | nil=>simp only[buildSl,Qf] at h ⊢;cases h;exact⟨rfl,.inl rfl,fun k o h=>by simp at h⟩
 | cons v vs=>
  simp only[buildSl] at h ⊢;obtain⟨⟨ds,e,l⟩,h1,h⟩:=Za h;unfold rowV at h;split at h
  ·rename_i hc;cases h;simp only at hf;subst hf;rw[ZdP h1 hp',Zc];refine⟨?_,.inr rfl,fun k o ho=>?_⟩
   ·unfold rowV;rw[Km hc]
   ·simp at ho;obtain⟨rfl,rfl⟩:=ho;exact⟨_,_,_,_,rfl⟩
  ·cases h
end
theorem Ze7 {C:Orc} {M:Zf} {sl:Sl} {hp hp' : Hp} {base:Nat} {c:COp} (hc:Vm c=true):vop C M sl hp base c=vop C M sl hp' base c:=by
 cases c<;>first | rfl | (simp[Vm] at hc)
section
variable {C:Orc} {M:Zf} {sl sl' : Sl} {hp hp' : Hp} {base:Nat} {g:List Nat}
theorem ZV {v:AV} {ce:Zb} (h:Qf v=some ce):ce.eff.adds=[]:=by cases h;rfl
theorem Qt {v:Option AV} {ce:Zb} (h:Y3 v=some ce):ce.eff.adds=[]:=by obtain⟨v,_,h⟩:=Za h;exact ZV h
theorem UP {v:Option AV} {ce:Zb} (h:Y3 v=some ce):v=some ce.eff.val:=by obtain⟨v,rfl,h⟩:=Za h;cases h;rfl
theorem Zp9 {v:Option AV} {ce:Zb} {w:Option AV} (h:Y3 v=some ce) (hw:w=some ce.eff.val):Y3 w=some ce:=by
 obtain⟨v,rfl,h⟩:=Za h;cases h;rw[hw];rfl
theorem Zo2 {c:COp} (hc:Vm c=true) (hv:Zpm c=true) {ce:Zb} (h:vop C M sl hp base c=some ce):ce.eff.adds=[]:=by
 cases c<;>simp only[Vm,Zpm,Ka] at hc hv<;>simp only[vop] at h
 case stuck=>cases h
 case move x=>exact ZV h
 case pick c a b=>
  unfold ZcD at h;split at h
  ·split at h<;>exact ZV h
  ·cases h
 case build zs ps=>obtain⟨cs,_,h⟩:=Za h;exact ZV h
 case nilCheck x=>unfold Uq at h;split at h<;>first | exact ZV h | cases h
 case bin op eq x y=>
  unfold Zei at h;split at h
  ·split at h
   ·exact Qt h
   ·cases h
  ·exact Qt h
 case un op x=>exact Qt h
 case eqA neg n x y=>
  unfold Zmy at h;split at h
  ·obtain⟨r,_,h⟩:=Za h;exact ZV h
  ·cases h
 case convI k x=>unfold Go.Abs.convI at h;split at h<;>first | exact ZV h | cases h
 case convS x=>unfold Go.Abs.convS at h;split at h<;>first | exact ZV h | cases h
 case sliceS x lo hi=>exact Qt h
 case shift off x=>unfold Vl at h;split at h<;>first | exact ZV h | cases h
 case part g s off x=>exact Qt h
 case iaA len s x i=>
  obtain⟨n,_,h⟩:=Za h;unfold Zjs at h;split at h
  ·unfold Vl at h;split at h<;>first | exact ZV h | cases h
  ·cases h
 case ixS x i=>
  obtain⟨n,_,h⟩:=Za h;unfold Zo7 at h;split at h
  ·unfold ZnU at h;split at h
   ·obtain⟨b,_,h⟩:=Za h;exact ZV h
   ·cases h
  ·cases h
 case ixA g s len x i=>
  obtain⟨n,_,h⟩:=Za h;unfold Zrx at h;split at h
  ·exact Qt h
  ·cases h
 case nth i x=>unfold ZnV at h;split at h<;>first | exact Qt h | cases h
 case lenS x=>obtain⟨n,_,h⟩:=Za h;exact ZV h
 case min x y=>unfold Zg0 at h;split at h<;>first | (split at h<;>first | exact ZV h | cases h) | cases h
 case max x y=>unfold Zg1 at h;split at h<;>first | (split at h<;>first | exact ZV h | cases h) | cases h
theorem ZgT {c:AV} (h:ZaM c=true):ZH g c=c:=by cases c<;>first | rfl | cases h
theorem ZbB:∀ {cs:List AV},Yz cs=true→∀ c∈cs,ZaM c=true
 | [],_,c,hc=>by simp at hc
 | x :: l,h,c,hc=>by
  simp only[Yz,Kb] at h;rcases Ke.1 hc with rfl | hc
  ·exact h.1
  ·exact ZbB h.2 c hc
theorem Zf6:∀ (slc:List (Option Nat)) (cs:List AV) (b:Nat),(∀ c∈(mat slc cs b).1,c∈cs∨∃ k o,c=.own k∧(k,o)∈(mat slc cs b).2)∧∀ k o,(k,o)∈(mat slc cs b).2→∃ sz,o=.row sz [] true false
 | [],cs,b=>by simp only[mat];exact⟨fun c hc=>.inl hc,fun k o h=>by simp at h⟩
 | t :: ts,[],b=>by cases t<;>(simp only[mat];exact⟨fun c hc=>.inl hc,fun k o h=>by simp at h⟩)
 | t :: ts,v :: vs,b=>by
  by_cases hv:(∃ sz,t=some sz)∧v=.nil
  ·obtain⟨⟨sz,rfl⟩,rfl⟩:=hv;obtain⟨h1,h2⟩:=Zf6 ts vs (b+1);simp only[mat];refine⟨fun c hc=>?_,fun k o h=>?_⟩
   ·rcases Ke.1 hc with rfl | hc
    ·exact .inr ⟨b,_,rfl,K8 ..⟩
    ·rcases h1 c hc with h | ⟨k,o,e,h⟩
     ·exact .inl (Ks _ h)
     ·exact .inr ⟨k,o,e,Ks _ h⟩
   ·rcases Ke.1 h with h | h
    ·cases h;exact⟨_,rfl⟩
    ·exact h2 k o h
  ·obtain⟨h1,h2⟩:=Zf6 ts vs b;have e:mat (t :: ts) (v :: vs) b=(v :: (mat ts vs b).1,(mat ts vs b).2):=by
    cases t with
    | none=>simp[mat]
    | some sz=>cases v<;>first | (exact absurd ⟨⟨sz,rfl⟩,rfl⟩ hv) | simp[mat]
   rw[e];refine⟨fun c hc=>?_,h2⟩;rcases Ke.1 hc with rfl | hc
   ·exact .inl (K8 ..)
   ·rcases h1 c hc with h | h
    ·exact .inl (Ks _ h)
    ·exact .inr h
theorem Zlc {base:Nat}:∀ {cs:List AV},Yz cs=true→cs.map (ZcE base)=cs
 | [],_=>rfl
 | c :: cs,h=>by
  simp only[Yz,Kb] at h;rw[Kn,Zlc h.2];congr 1
  cases c<;>first | rfl | (simp[ZaM] at h)
theorem Zld:∀ {cs:List AV},Yz cs=true→QP cs=true
 | [],_=>rfl
 | c :: cs,h=>by
  simp only[Yz,Kb] at h;have:=Zld h.2;cases c<;>first | exact this | (simp[ZaM] at h)
theorem ZgU {slc:List (Option Nat)} {cs:List AV} {ce:Zb} (hb:∀ k,base≤k→k<base+64→k∉g) (hc:Yz cs=true) (h:ZcF slc base cs=some ce) (ad:QA base (base+64) ce.eff.adds=true) :
  (∀ id∈Zo ce.eff.val,id∉g)∧∀ k o,(k,o)∈ce.eff.adds→QU g o=o:=by
 have hr:=Wv ad;unfold ZcF at h;rw[Zlc hc] at h;unfold Zjp at h;rw[Kl (by rw[Zld hc];decide)] at h;split at h
 ·cases h;simp only at hr ⊢;obtain⟨h1,h2⟩:=Zf6 slc cs (base+1);refine⟨fun id aa=>?_,fun k o hm=>?_⟩
  ·simp[Zo,Zp,Ze] at aa;subst aa;exact hb _ (Kh _) (by omega)
  ·rcases Ke.1 hm with hm | hm
   ·cases hm;simp only[QU];congr 1
    rw[Kx (g:=id),LA];intro c ab;rcases h1 c ab with h | ⟨k,o,rfl,h⟩
    ·exact ZgT (ZbB hc c h)
    ·have:=hr k o (Ks _ h);have hk:=hb k this.1 this.2;simp[ZH,ZW,hk]
   ·obtain⟨sz,rfl⟩:=h2 k o hm;rfl
 ·cases h;simp only at hr ⊢;refine⟨fun id aa=>?_,fun k o hm=>?_⟩
  ·simp[Zo,Zp,Ze] at aa;subst aa;exact hb _ (Kh _) (by omega)
  ·simp at hm;obtain⟨rfl,rfl⟩:=hm;simp only[QU];congr 1
   rw[Kx (g:=id),LA];exact fun c ab=>ZgT (ZbB hc c ab)
theorem Zrj {c:COp} (hc:ZjG c=true) (he:∀ x∈Zv c,evO sl' x=evO sl x) (hs:∀ x∈Zv c,Ze6 g hp hp' (evO sl x)) {ce:Zb}
  (hb:∀ k,base≤k→k<base+64→k∉g) (h:vop C M sl hp base c=some ce) (ab:QA base (base+64) ce.eff.adds=true) (ad:ce.eff.frz=[]) (ho:okV ce.eff.val=true) (hk:kill g ce.eff.val=ce.eff.val):vop C M sl' hp' base c=some ce∧∀ k o,(k,o)∈ce.eff.adds→QU g o=o:=by
 rw[QM C M hp' base he];have aa:ce.eff.adds=[]→∀ k o,(k,o)∈ce.eff.adds→QU g o=o:=fun e k o hm=>by rw[e] at hm;simp at hm
 simp only[ZjG,K5,Kb] at hc;rcases hc with ((hc | hc) | ⟨hc1,hc2⟩) | hc
 ·cases c<;>simp only[W4,Ka] at hc<;>simp only[vop] at h ⊢ <;> simp only[Zv] at hs
  case load a s x=>exact⟨Zp9 h (Zrh (hs x (by simp)) (UP h) ho hk),aa (Qt h)⟩
  case slice s x lo hi=>
   rw[Zcs (hs x (by simp))];exact⟨h,aa (Qt h)⟩
  case slice0 x hi mx=>
   unfold slice0 at h ⊢;rw[Za4 (hs x (by simp))];exact⟨h,aa (Qt h)⟩
  case iaS s x i=>
   obtain⟨n,h1,h⟩:=Za h;rw[h1,Zc];unfold ZdW at h ⊢;rw[UZ (hs x (by simp))];refine⟨h,aa ?_⟩;split at h
   ·exact Qt h
   ·cases h
  case len x=>
   rw[Za4 (hs x (by simp))];refine⟨h,aa ?_⟩;obtain⟨n,_,h⟩:=Za h;exact ZV h
 ·cases c<;>simp only[Zlv,Ka] at hc
  simp only[vop] at h ⊢;obtain⟨h1,h2,h3⟩:=ZdQ h ad hp';refine⟨h1,fun k o hm=>?_⟩;obtain⟨sz,xs,e,f,rfl⟩:=h3 k o hm;rfl
 ·rw[← Ze7 (hp:=hp) hc1];exact⟨h,aa (Zo2 hc1 hc2 h)⟩
 ·cases c<;>simp only[ZhK,Ka] at hc
  simp only[vop] at h ⊢;exact⟨h,(ZgU hb hc h ab).2⟩
theorem Zo3 {c:COp} (hc:Zfo c=true) (he:∀ x∈Zv c,evO sl' x=evO sl x) (hs:∀ x∈Zv c,Ze6 g hp hp' (evO sl x)) {ce:Zb}
  (hn:∀ x∈Zv c,∀ id∈Zo (evO sl x),id∉g) (hb:∀ k,base≤k→k<base+64→k∉g)
  (h:vop C M sl' hp' base c=some ce) (ad:QA base (base+64) ce.eff.adds=true) (ae:ce.eff.frz=[]) (ho:okV ce.eff.val=true):vop C M sl hp base c=some ce∧kill g ce.eff.val=ce.eff.val∧∀ k o,(k,o)∈ce.eff.adds→QU g o=o:=by
 rw[QM C M hp' base he] at h;have aa:ce.eff.adds=[]→∀ k o,(k,o)∈ce.eff.adds→QU g o=o:=fun e k o hm=>by rw[e] at hm;simp at hm
 have names:(∀ id∈Zo ce.eff.val,id∉g)→kill g ce.eff.val=ce.eff.val:=Zp8 ho;cases c<;>simp only[Zfo,Ka] at hc<;>simp only[vop] at h ⊢ <;> simp only[Zv] at hs hn
 case alloc slc cs=>
  obtain⟨h1,h2⟩:=ZgU hb hc h ad;exact⟨h,names h1,h2⟩
 case buildSl s xs=>
  obtain⟨h1,h2,h3⟩:=ZdQ h ae hp;refine⟨h1,names fun id ab=>?_,fun k o hm=>?_⟩
  ·rcases h2 with h2 | h2
   ·rw[h2] at ab;simp[Zo,Zp,Ze] at ab
   ·rw[h2] at ab;simp[Zo,Zp,Ze] at ab;subst ab;exact hb _ (Kh _) (by omega)
  ·obtain⟨sz,xs,e,f,rfl⟩:=h3 k o hm;rfl
 case load a s x=>
  obtain⟨h1,h2⟩:=Zri (hs x (by simp)) (UP h) ho;exact⟨Zp9 h h1,h2,aa (Qt h)⟩
 case nilCheck x=>
  have hx:=hn x (by simp);refine⟨h,names ?_,aa ?_⟩
  ·unfold Uq at h;split at h<;>rename_i hv<;>first | (cases h;done) | (cases h;show ∀ id∈Zo _,_;rw[← hv];exact hx)
  ·unfold Uq at h;split at h<;>first | exact ZV h | cases h
 case bin op eq x y=>
  have hd:∃ d,ce.eff.val=.d d:=by
   have o2:∀ {a b:AV},Y3 (vbin op a b)=some ce→∃ d,ce.eff.val=.d d:=fun {a b} h=>by
    have h1:=UP h;unfold vbin at h1;split at h1
    ·unfold WQ at h1;split at h1
     ·obtain⟨y,_,h1⟩:=Za h1;exact⟨_,(Option.some.inj h1).symm⟩
     ·obtain⟨y,_,h1⟩:=Za h1;exact⟨_,(Option.some.inj h1).symm⟩
     ·split at h1
      ·obtain⟨y,_,h1⟩:=Za h1;have:=Option.some.inj h1;exact⟨_,this.symm⟩
      ·cases h1
    ·obtain⟨y,_,h1⟩:=Za h1;have:=Option.some.inj h1;exact⟨_,this.symm⟩
    ·cases h1
   unfold Zei at h;split at h
   ·split at h
    ·have h1:=UP h;unfold ZkX at h1;split at h1
     ·exact⟨_,(Option.some.inj h1).symm⟩
     ·exact⟨_,(Option.some.inj h1).symm⟩
     ·cases h1
    ·cases h
   ·exact o2 h
  obtain⟨d,hd⟩:=hd;refine⟨h,by rw[hd];rfl,aa ?_⟩;unfold Zei at h;split at h
  ·split at h
   ·exact Qt h
   ·cases h
  ·exact Qt h
 case un op x=>
  have hd:∃ d,ce.eff.val=.d d:=by
   have h1:=UP h;unfold vun at h1;split at h1
   ·unfold neg1 at h1;split at h1
    ·exact⟨_,(Option.some.inj h1).symm⟩
    ·cases h1
   ·unfold not1 at h1;split at h1
    ·exact⟨_,(Option.some.inj h1).symm⟩
    ·cases h1
   ·cases h1
  obtain⟨d,hd⟩:=hd;exact⟨h,by rw[hd];rfl,aa (Qt h)⟩
 case convI k x=>
  unfold Go.Abs.convI at h ⊢;split at h
  ·exact⟨h,by cases h;rfl,aa (ZV h)⟩
  ·cases h
 case shift off x=>
  have hx:=hn x (by simp);refine⟨h,names ?_,aa ?_⟩
  ·unfold Vl at h;split at h<;>rename_i hv<;>first | (cases h;done) | skip
   ·cases h;rw[hv] at hx;simpa [Zo,Zp,Ze] using hx
   ·cases h;rw[hv] at hx;simpa [Zo,Zp,Ze] using hx
   ·cases h;simp[Zo,Zp,Ze]
  ·unfold Vl at h;split at h<;>first | exact ZV h | cases h
 case slice s x lo hi=>
  have hx:=hn x (by simp);rw[Zcs (hs x (by simp))] at h;refine⟨h,names ?_,aa (Qt h)⟩;have h1:=UP h;cases hv:evO sl x<;>rw[hv] at h1 hx<;>simp only[YP] at h1<;>first | (cases h1;done) | skip
  case d y=>
   cases y<;>simp only[YP] at h1<;>first | (cases h1;done) | skip
   split at h1
   ·obtain⟨b,_,h1⟩:=Za h1;rw[← Option.some.inj h1];simp[Zo,Zp,Ze]
   ·cases h1
  case nil=>obtain⟨b,_,h1⟩:=Za h1;rw[← Option.some.inj h1];simp[Zo,Zp,Ze]
  case own id=>
   unfold JP at h1;split at h1
   ·split at h1
    ·unfold ZnS at h1;split at h1
     ·rw[← Option.some.inj h1];exact hx
     ·obtain⟨b,_,h1⟩:=Za h1;rw[← Option.some.inj h1];simpa [Zo,Zp,Ze] using hx
    ·cases h1
   ·cases h1
  case ownv id off n=>
   unfold Up at h1;split at h1
   ·split at h1
    ·obtain⟨b,_,h1⟩:=Za h1;rw[← Option.some.inj h1];simpa [Zo,Zp,Ze] using hx
    ·cases h1
   ·cases h1
 case sliceS x lo hi=>
  have hd:∃ d,ce.eff.val=.d d:=by
   have h1:=UP h;unfold sliceS at h1;split at h1
   ·obtain⟨b,_,h1⟩:=Za h1;exact⟨_,(Option.some.inj h1).symm⟩
   ·cases h1
  obtain⟨d,hd⟩:=hd;exact⟨h,by rw[hd];rfl,aa (Qt h)⟩
 case lenS x=>
  obtain⟨n,h1,h⟩:=Za h;refine⟨by rw[h1,Zc];exact h,by cases h;rfl,aa (ZV h)⟩
 case iaS s x i=>
  have hx:=hn x (by simp);obtain⟨n,h1,h⟩:=Za h;rw[h1,Zc];unfold ZdW at h ⊢;rw[UZ (hs x (by simp))] at h;refine⟨h,names ?_,aa ?_⟩
  ·split at h
   ·have h1:=UP h;cases hv:evO sl x<;>rw[hv] at h1 hx<;>simp only[Qk] at h1<;>first | (cases h1;done) | skip
    case d y=>
     cases y<;>simp only[Qk] at h1<;>first | (cases h1;done) | skip
     obtain⟨b,_,h1⟩:=Za h1;unfold Zqi at h1;split at h1
     ·rw[← Option.some.inj h1];simp[Zo,Zp,Ze]
     ·cases h1
    case own id=>
     unfold Zai at h1;split at h1
     ·split at h1
      ·rw[← Option.some.inj h1];simpa [Zo,Zp,Ze] using hx
      ·cases h1
     ·split at h1
      ·rw[← Option.some.inj h1];simpa [Zo,Zp,Ze] using hx
      ·cases h1
     ·cases h1
    case ownv id off n=>
     unfold JO at h1;split at h1
     ·split at h1
      ·rw[← Option.some.inj h1];simpa [Zo,Zp,Ze] using hx
      ·cases h1
     ·cases h1
   ·cases h
  ·split at h
   ·exact Qt h
   ·cases h
 case len x=>
  rw[Za4 (hs x (by simp))] at h;obtain⟨n,h1,h2⟩:=Za h;exact⟨h,by cases h2;rfl,aa (ZV h2)⟩
end
end Go.Abs
