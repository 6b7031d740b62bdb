/- Own text. -/
import Derived.Test.YtbpekaejmjlmfaaGreatAbsDraw3
import Derived.Test.YtbpekaejmjlmfaaGreatAbsSound5
set_option linter.unusedVariables false
set_option linter.unusedSimpArgs false
namespace Go.Abs
open Go
theorem Zzc {v:AV} (h:okC v=true):okV v=true:=by
 cases v<;>first | exact h | cases h
theorem Zl7 {g:List Nat} {v:AV} (h:okC (Qh g v)=true):Qh g v=v:=by
 cases v<;>simp only[Qh] at h ⊢ <;> first | rfl | (split at h<;>rename_i h' <;> first | (cases h;done) | rw[Ki h'])
theorem ZjP {g:List Nat}:∀ {cs:List AV},Zvd (cs.map (Qh g))=true→cs.map (Qh g)=cs
 | [],_=>rfl
 | c :: cs,h=>by
  simp only[Ko,Zvd,Kd] at h ⊢;rw[Zl7 h.1,ZjP h.2]
theorem Zfl {g:List Nat} {v:AV} (h:okV (ZW g v)=true):ZW g v=v:=by
 cases v with
 | agg cs=>simp only[ZW,okV] at h ⊢;rw[ZjP h]
 | clo f cs=>simp only[ZW,okV,okC] at h;cases h
 | tup vs=>rfl
 | _=>
  simp only[ZW] at h ⊢;refine Zl7 ?_;revert h;simp only[Qh]
  first | exact id | (split<;>first | exact id | (intro h;cases h))
theorem Zdw {g:List Nat} {v:AV} (h:okV (kill g v)=true):kill g v=v:=by
 cases v with
 | tup vs=>
  cases vs with
  | nil=>rfl
  | cons x r=>simp only[kill,Ko,okV,okC] at h;cases h
 | _=>simp only[kill] at h ⊢;exact Zfl h
theorem Zwz {g:List Nat} {v:AV} (hn:∀ id∈Zo v,id∉g):Qh g v=v:=by
 cases v<;>simp only[Qh]<;>first | rfl | (rw[Ki];simpa [Zo] using hn)
theorem Zzd {g:List Nat} {v:AV} (h:okV v=true) (hn:∀ id∈Zy v,id∉g):kill g v=v:=by
 cases v with
 | tup vs=>
  cases vs with
  | nil=>rfl
  | cons x r=>simp only[okV,okC] at h;cases h
 | clo f cs=>simp only[okV,okC] at h;cases h
 | agg cs=>
  simp only[kill,ZW];congr 1
  rw[KM (g:=id),LK];intro c hc;exact Zwz fun id aa=>hn id (by simp only[Zy,ZA,Kx];exact⟨c,hc,aa⟩)
 | _=>simp only[kill,ZW];exact Zwz hn
theorem ZBB {g:List Nat} {v:AV} (h:kill g v=v):∀ id∈Zy v,id∉g:=fun id aa=>(Zs9 g v id (by rw[h];exact aa)).2
theorem ZAf {g:List Nat} {c:AV} (h:okC c=true) (h1:Qh g c=c):ZW g c=c:=by
 cases c<;>simp only[ZW]<;>first | exact h1 | cases h
def Zdx (g:List Nat):Option Zn→Option Zn→Prop
 | none,none=>True
 | some (.row s xs _ _),some (.row s' xs' _ _)=>s'=s∧xs'=xs
 | some (.box cs),some (.box cs')=>cs'=cs.map (ZW g)
 | some (.tree s n xs l),some (.tree s' n' xs' l')=>s'=s∧n'=n∧xs'=xs∧l'=Ub g l
 | some .gone,some .gone=>True
 | _,_=>False
theorem ZwA {g:List Nat} {b:Bool} (o:Option Zn):Zdx g o ((o.map (Xt g)).map fun o=>if b then V0 o else o):=by
 cases o with
 | none=>trivial
 | some o=>cases o<;>cases b<;>exact(by first | exact⟨rfl,rfl⟩ | exact rfl | exact⟨rfl,rfl,rfl,rfl⟩ | exact trivial)
theorem Ztm {g:List Nat}:∀ {l:List AV} {ds:List D},Zgb l=some ds→l.map (ZW g)=l
 | [],ds,_=>rfl
 | v :: l,ds,h=>by
  simp only[Zgb] at h;obtain⟨x,h1,h⟩:=Za h;obtain⟨aa,h2,h⟩:=Za h;have:ZW g v=v:=by cases v<;>first | rfl | cases h1
  rw[Ko,this,Ztm h2]
theorem Zqz {g:List Nat}:∀ {l:List AV} {ds:List D},Zgb (l.map (ZW g))=some ds→l.map (ZW g)=l
 | [],ds,_=>rfl
 | v :: l,ds,h=>by
  simp only[Ko,Zgb] at h;obtain⟨x,h1,h⟩:=Za h;obtain⟨aa,h2,h⟩:=Za h;have hv:ZW g v=v:=by
   refine Zfl ?_;cases hk:ZW g v<;>rw[hk] at h1<;>first | rfl | cases h1
  rw[Ko,hv,Zqz h2]
theorem ZhF (l:List AV):(∃ ds,Zgb l=some ds∧ZaK l=.d (.agg ds))∨(Zgb l=none∧(ZaK l=.junk∨ZaK l=.agg l)):=by
 unfold ZaK;cases h:Zgb l with
 | some ds=>exact .inl ⟨ds,rfl,rfl⟩
 | none=>
  refine .inr ⟨rfl,?_⟩;unfold JC;split
  ·rename_i h;cases h
  ·split
   ·exact .inl rfl
   ·exact .inr rfl
theorem ZkN:∀ {l:List AV},Zvd l=true→∀ c∈l,okC c=true
 | [],_,c,hc=>by simp at hc
 | x :: l,h,c,hc=>by
  simp only[Zvd,Kd] at h;rcases Kg.1 hc with rfl | hc
  ·exact h.1
  ·exact ZkN h.2 c hc
theorem ZAg {g:List Nat} {l:List AV} (h:okV (ZaK l)=true) (hk:kill g (ZaK l)=ZaK l):l.map (ZW g)=l:=by
 rcases ZhF l with ⟨ds,h1,h2⟩ | ⟨h1,h2 | h2⟩
 ·exact Ztm h1
 ·rw[h2] at h;cases h
 ·rw[h2] at h hk;simp only[kill,ZW,AV.agg.injEq] at hk;simp only[okV] at h;have hm:=ZkN h;have aa : ∀ c∈l,Qh g c=c:=by
   intro c hc;have:=ZjP (g:=g) (cs:=l) (by rw[hk];exact h);exact Zl7 (by
    have h3:Qh g c∈l.map (Qh g):=Kaq hc;rw[hk] at h3;exact hm _ h3)
  rw[KM (g:=id),LK];intro c hc;exact ZAf (hm c hc) (aa c hc)
theorem ZAh {g:List Nat} {l:List AV} (h:okV (ZaK (l.map (ZW g)))=true):l.map (ZW g)=l:=by
 rcases ZhF (l.map (ZW g)) with ⟨ds,h1,h2⟩ | ⟨h1,h2 | h2⟩
 ·exact Zqz h1
 ·rw[h2] at h;cases h
 ·rw[h2] at h;simp only[okV] at h;have hm:=ZkN h;rw[KM (g:=id),LK];intro c hc;exact Zfl (Zzc (hm _ (Kaq hc)))
theorem Zx7 {g:List Nat} {v:AV} (h:okV v=true) (hk:kill g v=v):ZW g v=v:=by
 cases v with
 | tup vs=>rfl
 | _=>simp only[kill] at hk;exact hk
theorem Zx8 {g:List Nat} {v:AV} (h:okV v=true) (hk:ZW g v=v):kill g v=v:=by
 cases v with
 | tup vs=>
  cases vs with
  | nil=>rfl
  | cons x r=>simp only[okV,okC] at h;cases h
 | _=>simp only[kill];exact hk
theorem Zjg {α β:Type} (f:α→β) (l:List α) (a b:Nat):((l.map f).drop a).take b=((l.drop a).take b).map f:=by
 rw[← List.map_drop,← List.map_take]
theorem ZmW (g:List Nat) (c:AV):ZkV (ZW g c)=ZW g (ZkV c):=by
 have aa:∀ v:AV,(∀ a b,v≠.bbuf a b)→ZkV v=v:=fun v h'=>by cases v<;>first | rfl | exact absurd rfl (h' _ _)
 by_cases h' : ∃ a b,c=.bbuf a b
 ·obtain⟨a,b,rfl⟩:=h';rfl
 ·have h2:∀ a b,c≠.bbuf a b:=fun a b e=>h' ⟨a,b,e⟩;rw[aa c h2,aa];exact fun a b e=>h2 a b ((JQ g c a b).1 e)
theorem ZwB {g:List Nat} {cs:List AV} {a:Bool} {s off:Nat} {v:AV} (h:ZbK a s off (some (.box cs))=some v) (ho:okV v=true) (hk:kill g v=v):ZbK a s off (some (.box (cs.map (ZW g))))=some v:=by
 unfold ZbK at h ⊢;cases a with
 | true=>
  simp only[Kk] at h ⊢;split at h
  ·rename_i hl;cases h;rw[Kl (by simpa using hl),Zjg,ZAg ho hk]
  ·cases h
 | false=>
  simp only[Ka,Kj] at h ⊢;obtain⟨c,hc,rfl⟩:=Option.map_eq_some_iff.1 h;rw[Lc,hc];simp only[Ld];rw[ZmW,Zx7 ho hk]
theorem ZwC {g:List Nat} {cs:List AV} {a:Bool} {s off:Nat} {v:AV} (h:ZbK a s off (some (.box (cs.map (ZW g))))=some v) (ho:okV v=true):ZbK a s off (some (.box cs))=some v∧kill g v=v:=by
 unfold ZbK at h ⊢;cases a with
 | true=>
  simp only[Kk] at h ⊢;split at h
  ·rename_i hl;cases h;rw[Zjg] at ho ⊢;have he:=ZAh ho;rw[he] at ho ⊢;refine⟨by rw[Kl (by simpa using hl)],?_⟩;rcases ZhF ((cs.drop off).take s) with ⟨ds,h1,h2⟩ | ⟨h1,h2 | h2⟩
   ·rw[h2];rfl
   ·rw[h2] at ho;cases ho
   ·rw[h2] at ho ⊢;simp only[okV] at ho;have hm:=ZkN ho;simp only[kill,ZW,AV.agg.injEq];rw[KM (g:=id),LK];intro c hc;have h3:ZW g c=c:=by
     refine Zfl ?_;have h4:ZW g c∈((cs.drop off).take s).map (ZW g):=Kaq hc;rw[he] at h4;exact Zzc (hm _ h4)
    have:=hm c hc;cases c<;>first | exact h3 | cases this
  ·cases h
 | false=>
  simp only[Ka,Kj] at h ⊢;rw[Lc] at h;cases hc:cs[off]? with
  | none=>rw[hc] at h;cases h
  | some c=>
   rw[hc] at h;simp only[Ld,Option.some.injEq] at h;rw[ZmW] at h;have h3:ZW g (ZkV c)=ZkV c:=Zfl (by rw[h];exact ho);rw[h3] at h;subst h;exact⟨rfl,Zx8 ho h3⟩
theorem Zx9 {g:List Nat} {o o' : Option Zn} (h:Zdx g o o'):UM o'=UM o:=by
 cases o with
 | none=>cases o' with
  | none=>rfl
  | some o'=>cases h
 | some o=>cases o' with
  | none=>cases o<;>cases h
  | some o' =>
   have tr:∀ s n xs l,UM (some (.tree s n xs (Ub g l)))=UM (some (.tree s n xs l)):=by
    intro s n xs l;rcases l with _ | ⟨_ | nm,_⟩
    ·rfl
    ·rfl
    ·simp only[Ub];split<;>rfl
   cases o<;>cases o' <;> simp only[Zdx] at h<;>first | (cases h;done) | rfl | (obtain⟨rfl,rfl⟩:=h;rfl) | (obtain⟨rfl,rfl,rfl,rfl⟩:=h;exact tr _ _ _ _)
theorem Zdy {g:List Nat} {o o' : Option Zn} (h:Zdx g o o'):(∃ s xs e f e' f',o=some (.row s xs e f)∧o'=some (.row s xs e' f'))∨(o=none∧o'=none)∨(∃ cs,o=some (.box cs)∧o'=some (.box (cs.map (ZW g))))∨(o=some .gone∧o'=some .gone)∨(∃ s n xs l,o=some (.tree s n xs l)∧o'=some (.tree s n xs (Ub g l))):=by
 cases o with
 | none=>cases o' with
  | none=>exact .inr (.inl ⟨rfl,rfl⟩)
  | some o'=>cases h
 | some o=>cases o' with
  | none=>cases o<;>cases h
  | some o' =>
   cases o with
   | box cs=>cases o' with
    | box cs'=>simp only[Zdx] at h;subst h;exact .inr (.inr (.inl ⟨cs,rfl,rfl⟩))
    | row _ _ _ _=>cases h
    | gone=>cases h
    | tree _ _ _ _=>cases h
   | row s xs e f=>cases o' with
    | box cs'=>cases h
    | row s' xs' e' f'=>simp only[Zdx] at h;obtain⟨rfl,rfl⟩:=h;exact .inl ⟨_,_,_,_,_,_,rfl,rfl⟩
    | gone=>cases h
    | tree _ _ _ _=>cases h
   | gone=>cases o' with
    | box cs'=>cases h
    | row _ _ _ _=>cases h
    | gone=>exact .inr (.inr (.inr (.inl ⟨rfl,rfl⟩)))
    | tree _ _ _ _=>cases h
   | tree s n xs l=>cases o' with
    | box cs'=>cases h
    | row _ _ _ _=>cases h
    | gone=>cases h
    | tree s' n' xs' l'=>simp only[Zdx] at h;obtain⟨rfl,rfl,rfl,rfl⟩:=h;exact .inr (.inr (.inr (.inr ⟨_,_,_,_,rfl,rfl⟩)))
section
variable {g:List Nat} {o o' : Option Zn}
theorem ZuT (h:Zdx g o o') (sz id n:Nat):Zeg sz id n o'=Zeg sz id n o:=by
 rcases Zdy h with ⟨s,xs,e,f,e',f',rfl,rfl⟩ | ⟨rfl,rfl⟩ | ⟨cs,rfl,rfl⟩ | ⟨rfl,rfl⟩ | ⟨s,n,xs,l,rfl,rfl⟩<;>rfl
theorem Zsy (h:Zdx g o o') (sz id off m n:Nat):ZdD sz id off m n o'=ZdD sz id off m n o:=by
 rcases Zdy h with ⟨s,xs,e,f,e',f',rfl,rfl⟩ | ⟨rfl,rfl⟩ | ⟨cs,rfl,rfl⟩ | ⟨rfl,rfl⟩ | ⟨s,n,xs,l,rfl,rfl⟩<;>rfl
theorem Zsz (h:Zdx g o o') (s id:Nat) (lo hi:Option AV):ZdE s id lo hi o'=ZdE s id lo hi o:=by
 rcases Zdy h with ⟨s,xs,e,f,e',f',rfl,rfl⟩ | ⟨rfl,rfl⟩ | ⟨cs,rfl,rfl⟩ | ⟨rfl,rfl⟩ | ⟨s,n,xs,l,rfl,rfl⟩<;>rfl
theorem ZqA (h:Zdx g o o') (s id off n:Nat) (lo hi:Option AV):Zbs s id off n lo hi o'=Zbs s id off n lo hi o:=by
 rcases Zdy h with ⟨s,xs,e,f,e',f',rfl,rfl⟩ | ⟨rfl,rfl⟩ | ⟨cs,rfl,rfl⟩ | ⟨rfl,rfl⟩ | ⟨s,n,xs,l,rfl,rfl⟩<;>rfl
theorem ZuU {i off:Nat} {l:Option (Option Nat×Nat×Nat)} {x:D} {v:AV} (h:ZaV i off l x=some v) (hk:kill g v=v):ZaV i off (Ub g l) x=some v:=by
 unfold ZaV at h ⊢;split at h
 ·unfold Zm4 at h;split at h
  ·rename_i nm i' c;split at h
   ·rename_i hc;cases h;have:g.contains nm=false:=by
     cases hg:g.contains nm with
     | false=>rfl
     | true=>simp only[kill,ZW,Qh,hg,Kk] at hk;cases hk
    simp only[Ub,this,Ka,Kj,Zm4,hc,and_self,Kk]
   ·cases h
  ·cases h
 ·exact h
 ·cases h
theorem ZuV {i off:Nat} {l:Option (Option Nat×Nat×Nat)} {x:D} {v:AV} (h:ZaV i off (Ub g l) x=some v):ZaV i off l x=some v∧kill g v=v:=by
 unfold ZaV at h ⊢;split at h
 ·unfold Zm4 at h;split at h
  ·rename_i nm i' c hl;split at h
   ·rename_i hc;cases h;unfold Ub at hl;split at hl
    ·rename_i ab q;split at hl
     ·cases hl
     ·rename_i hg;cases hl;simp only[LB] at hg;exact⟨by simp only[Zm4,hc,and_self,Kk],by simp only[kill,ZW,Qh,hg,Ka,Kj]⟩
    ·rename_i aa;subst hl;exact absurd rfl (aa _ _)
   ·cases h
  ·cases h
 ·split at h
  ·rename_i hp;cases h;exact⟨by rw[Kl hp],rfl⟩
  ·cases h
 ·cases h
theorem ZkO {id:Nat} (h:Zdx g o o') {a:Bool} {s sz i off:Nat} {v:AV}:(ZaW id a s sz i off o=some v→kill g v=v→ZaW id a s sz i off o'=some v)∧(ZaW id a s sz i off o'=some v→ZaW id a s sz i off o=some v∧kill g v=v):=by
 have aa:∀ {cs:List D},ZdB a s off cs=some v→∃ d,v=.d d:=by
  intro cs h;unfold ZdB at h;split at h
  ·split at h
   ·cases h;exact⟨_,rfl⟩
   ·cases h
  ·unfold asD at h;obtain⟨y,_,h⟩:=Za h;cases h;exact⟨_,rfl⟩
 rcases Zdy h with ⟨s,xs,e,f,e',f',rfl,rfl⟩ | ⟨rfl,rfl⟩ | ⟨cs,rfl,rfl⟩ | ⟨rfl,rfl⟩ | ⟨s,n,xs,l,rfl,rfl⟩
 ·refine⟨fun h _=>h,fun h=>⟨h,?_⟩⟩;simp only[ZaW] at h;split at h
  ·obtain⟨x,_,h⟩:=Za h;unfold ZkW at h;split at h
   ·obtain⟨d,rfl⟩:=aa h;rfl
   ·cases h
  ·cases h
 ·exact⟨fun h _=>(by cases h),fun h=>(by cases h)⟩
 ·exact⟨fun h _=>(by cases h),fun h=>(by cases h)⟩
 ·exact⟨fun h _=>(by cases h),fun h=>(by cases h)⟩
 ·simp only[ZaW];split
  ·split
   ·exact⟨fun h _=>(by cases h),fun h=>(by cases h)⟩
   ·constructor
    ·intro hh hk;obtain⟨x,h1,hh⟩:=Za hh;rw[h1,Zg];exact ZuU hh hk
    ·intro hh;obtain⟨x,h1,hh⟩:=Za hh;rw[h1,Zg];exact ZuV hh
  ·exact⟨fun h _=>(by cases h),fun h=>(by cases h)⟩
end
section
variable {hp hp' : Hp} {g:List Nat}
def ZkP (g:List Nat) (hp hp' : Hp) (v:AV):Prop:=∀ k∈Zy v,Zdx g (lkp hp k) (lkp hp' k)
theorem Zfm {v:AV} (h:ZkP g hp hp' v):ZeT hp' v=ZeT hp v:=by
 cases v<;>simp only[ZeT]
 case d x=>cases x<;>rfl
 case own id=>rw[Zx9 (h id (by simp[Zy,ZA,Zo]))]
theorem Zce {v:AV} (h:ZkP g hp hp' v) (sz n:Nat):QJ hp' sz n v=QJ hp sz n v:=by
 cases v<;>simp only[QJ]
 case d x=>cases x<;>rfl
 case own id=>rw[ZuT (h id (by simp[Zy,ZA,Zo]))]
 case ownv id off n=>rw[Zsy (h id (by simp[Zy,ZA,Zo]))]
theorem ZhG {v:AV} (h:ZkP g hp hp' v) (s:Nat) (lo hi:Option AV):WC hp' s lo hi v=WC hp s lo hi v:=by
 cases v<;>simp only[WC]
 case d x=>cases x<;>rfl
 case own id=>rw[Zsz (h id (by simp[Zy,ZA,Zo]))]
 case ownv id off n=>rw[ZqA (h id (by simp[Zy,ZA,Zo]))]
theorem ZAi {x v:AV} (hs:ZkP g hp hp' x) {a:Bool} {s:Nat} (h:Jr hp a s x=some v) (ho:okV v=true) (hk:kill g v=v):Jr hp' a s x=some v:=by
 cases x<;>simp only[Jr] at h ⊢ <;> first | (cases h;done) | skip
 case ptr id off=>
  rcases Zdy (hs id (by simp[Zy,ZA,Zo])) with ⟨_,_,_,_,_,_,e1,e2⟩ | ⟨e1,e2⟩ | ⟨cs,e1,e2⟩ | ⟨e1,e2⟩ | ⟨_,_,_,_,e1,e2⟩
  ·rw[e1] at h;cases h
  ·rw[e1] at h;cases h
  ·rw[e1] at h;rw[e2];exact ZwB h ho hk
  ·rw[e1] at h;cases h
  ·rw[e1] at h;cases h
 case prow id sz i off=>exact(ZkO (hs id (by simp[Zy,ZA,Zo]))).1 h hk
 case pim cs=>exact h
theorem ZBC {a:Bool} {s off:Nat} {cs:List D} {v:AV} (h:ZdB a s off cs=some v):∃ d,v=.d d:=by
 unfold ZdB at h;split at h
 ·split at h
  ·cases h;exact⟨_,rfl⟩
  ·cases h
 ·unfold asD at h;obtain⟨y,_,h⟩:=Za h;cases h;exact⟨_,rfl⟩
theorem ZAj {x v:AV} (hs:ZkP g hp hp' x) {a:Bool} {s:Nat} (h:Jr hp' a s x=some v) (ho:okV v=true):Jr hp a s x=some v∧kill g v=v:=by
 cases x<;>simp only[Jr] at h ⊢ <;> first | (cases h;done) | skip
 case ptr id off=>
  rcases Zdy (hs id (by simp[Zy,ZA,Zo])) with ⟨_,_,_,_,_,_,e1,e2⟩ | ⟨e1,e2⟩ | ⟨cs,e1,e2⟩ | ⟨e1,e2⟩ | ⟨_,_,_,_,e1,e2⟩
  ·rw[e2] at h;cases h
  ·rw[e2] at h;cases h
  ·rw[e2] at h;rw[e1];exact ZwC h ho
  ·rw[e2] at h;cases h
  ·rw[e2] at h;cases h
 case prow id sz i off=>
  exact(ZkO (hs id (by simp[Zy,ZA,Zo]))).2 h
 case pim cs=>
  obtain⟨d,rfl⟩:=ZBC h;exact⟨h,rfl⟩
theorem ZmX {x:AV} {d:D} {e:Bool} (h:Zcl hp x=some (d,e,[])) (hp' : Hp):Zcl hp' x=some (d,e,[]):=by
 cases x<;>simp only[Zcl] at h ⊢ <;> first | exact h | skip
 case own id=>obtain⟨q,_,h⟩:=Za h;simp at h
theorem ZmY:∀ {xs:List AV} {d:List D} {e:Bool},WG hp xs=some (d,e,[])→∀ hp' : Hp,WG hp' xs=some (d,e,[])
 | [],d,e,h,hp'=>h
 | x :: xs,d,e,h,hp'=>by
  simp only[WG] at h ⊢;obtain⟨⟨d1,e1,l1⟩,h1,h⟩:=Za h;obtain⟨⟨d2,e2,l2⟩,h2,h⟩:=Za h;have hl:l1=[]∧l2=[]:=by
   simp only at h;split at h
   ·simp only[Option.some.injEq,Prod.mk.injEq,Kab] at h;exact h.2.2
   ·cases h
  obtain⟨rfl,rfl⟩:=hl;rw[ZmX h1 hp',Zg,ZmY h2 hp',Zg];exact h
theorem Zya {x:AV} {d:D} {e:Bool} (h:give hp x=some (d,e,[])) (hp' : Hp):give hp' x=some (d,e,[]):=by
 cases x<;>simp only[give] at h ⊢ <;> first | exact ZmX h hp' | skip
 case agg cs=>
  obtain⟨⟨d1,e1,l1⟩,h1,h⟩:=Za h;simp only[Option.some.injEq,Prod.mk.injEq] at h;obtain⟨rfl,rfl,rfl⟩:=h;rw[ZmY h1 hp',Zg]
theorem Zjh:∀ {xs:List AV} {d:List D} {e:Bool},UN hp xs=some (d,e,[])→∀ hp' : Hp,UN hp' xs=some (d,e,[])
 | [],d,e,h,hp'=>h
 | x :: xs,d,e,h,hp'=>by
  simp only[UN] at h ⊢;obtain⟨⟨d1,e1,l1⟩,h1,h⟩:=Za h;obtain⟨⟨d2,e2,l2⟩,h2,h⟩:=Za h;have hl:l1=[]∧l2=[]:=by
   simp only at h;split at h
   ·simp only[Option.some.injEq,Prod.mk.injEq,Kab] at h;exact h.2.2
   ·cases h
  obtain⟨rfl,rfl⟩:=hl;rw[Zya h1 hp',Zg,Zjh h2 hp',Zg];exact h
theorem Zji {base s:Nat} {vs:List AV} {ce:Zf} (h:buildSl hp base s vs=some ce) (hf:ce.eff.frz=[]) (hp' : Hp) :
  buildSl hp' base s vs=some ce∧(ce.eff.val=.nil∨ce.eff.val=.own base)∧(∀ k o,(k,o)∈ce.eff.adds→∃ sz xs e f,o=.row sz xs e f):=by
 cases vs with
 | nil=>simp only[buildSl,QD] at h ⊢;cases h;exact⟨rfl,.inl rfl,fun k o h=>by simp at h⟩
 | cons v vs=>
  simp only[buildSl] at h ⊢;obtain⟨⟨ds,e,l⟩,h1,h⟩:=Za h;unfold ZAz at h;split at h
  ·rename_i hc;cases h;simp only at hf;subst hf;rw[Zjh h1 hp',Zg];refine⟨?_,.inr rfl,fun k o ho=>?_⟩
   ·unfold ZAz;rw[Kl hc]
   ·simp at ho;obtain⟨rfl,rfl⟩:=ho;exact⟨_,_,_,_,rfl⟩
  ·cases h
end
theorem ZkQ {C:Orc} {M:Zp} {sl:Sl} {hp hp' : Hp} {base:Nat} {c:COp} (hc:Ul c=true):vop C M sl hp base c=vop C M sl hp' base c:=by
 cases c<;>first | rfl | (simp[Ul] at hc)
section
variable {C:Orc} {M:Zp} {sl sl' : Sl} {hp hp' : Hp} {base:Nat} {g:List Nat}
theorem Qf {v:AV} {ce:Zf} (h:QD v=some ce):ce.eff.adds=[]:=by cases h;rfl
theorem QV {v:Option AV} {ce:Zf} (h:WP v=some ce):ce.eff.adds=[]:=by obtain⟨v,_,h⟩:=Za h;exact Qf h
theorem Zb1 {v:Option AV} {ce:Zf} (h:WP v=some ce):v=some ce.eff.val:=by obtain⟨v,rfl,h⟩:=Za h;cases h;rfl
theorem Zze {v:Option AV} {ce:Zf} {w:Option AV} (h:WP v=some ce) (hw:w=some ce.eff.val):WP w=some ce:=by
 obtain⟨v,rfl,h⟩:=Za h;cases h;rw[hw];rfl
theorem Zyb {c:COp} (hc:Ul c=true) (hv:Zyt c=true) {ce:Zf} (h:vop C M sl hp base c=some ce):ce.eff.adds=[]:=by
 cases c<;>simp only[Ul,Zyt,Ka] at hc hv<;>simp only[vop] at h
 case stuck=>cases h
 case move x=>exact Qf h
 case pick c a b=>
  unfold ZhS at h;split at h
  ·split at h<;>exact Qf h
  ·cases h
 case build zs ps=>obtain⟨cs,_,h⟩:=Za h;exact Qf h
 case nilCheck x=>unfold Zbt at h;split at h<;>first | exact Qf h | cases h
 case bin op eq x y=>
  unfold ZjT at h;split at h
  ·split at h
   ·exact QV h
   ·cases h
  ·exact QV h
 case un op x=>exact QV h
 case eqA neg n x y=>
  unfold Zu3 at h;split at h
  ·obtain⟨r,_,h⟩:=Za h;exact Qf h
  ·cases h
 case convI k x=>unfold Go.Abs.convI at h;split at h<;>first | exact Qf h | cases h
 case convS x=>unfold Go.Abs.convS at h;split at h<;>first | exact Qf h | cases h
 case sliceS x lo hi=>exact QV h
 case shift off x=>unfold Uk at h;split at h<;>first | exact Qf h | cases h
 case part g s off x=>exact QV h
 case iaA len s x i=>
  obtain⟨n,_,h⟩:=Za h;unfold ZqO at h;split at h
  ·unfold Uk at h;split at h<;>first | exact Qf h | cases h
  ·cases h
 case ixS x i=>
  obtain⟨n,_,h⟩:=Za h;unfold Zyg at h;split at h
  ·unfold ZwQ at h;split at h
   ·obtain⟨b,_,h⟩:=Za h;exact Qf h
   ·cases h
  ·cases h
 case ixA g s len x i=>
  obtain⟨n,_,h⟩:=Za h;unfold ZAA at h;split at h
  ·exact QV h
  ·cases h
 case nth i x=>unfold ZwR at h;split at h<;>first | exact QV h | cases h
 case lenS x=>obtain⟨n,_,h⟩:=Za h;exact Qf h
 case min x y=>unfold Zm5 at h;split at h<;>first | (split at h<;>first | exact Qf h | cases h) | cases h
 case max x y=>unfold Zm6 at h;split at h<;>first | (split at h<;>first | exact Qf h | cases h) | cases h
theorem ZmZ {c:AV} (h:Ze1 c=true):ZW g c=c:=by cases c<;>first | rfl | cases h
theorem Zgj:∀ {cs:List AV},Wf cs=true→∀ c∈cs,Ze1 c=true
 | [],_,c,hc=>by simp at hc
 | x :: l,h,c,hc=>by
  simp only[Wf,Kd] at h;rcases Kg.1 hc with rfl | hc
  ·exact h.1
  ·exact Zgj h.2 c hc
theorem Zl8:∀ (slc:List (Option Nat)) (cs:List AV) (b:Nat),(∀ c∈(mat slc cs b).1,c∈cs∨∃ k o,c=.own k∧(k,o)∈(mat slc cs b).2)∧∀ k o,(k,o)∈(mat slc cs b).2→∃ sz,o=.row sz [] true false
 | [],cs,b=>by simp only[mat];exact⟨fun c hc=>.inl hc,fun k o h=>by simp at h⟩
 | t :: ts,[],b=>by cases t<;>(simp only[mat];exact⟨fun c hc=>.inl hc,fun k o h=>by simp at h⟩)
 | t :: ts,v :: vs,b=>by
  by_cases hv:(∃ sz,t=some sz)∧v=.nil
  ·obtain⟨⟨sz,rfl⟩,rfl⟩:=hv;obtain⟨h1,h2⟩:=Zl8 ts vs (b+1);simp only[mat];refine⟨fun c hc=>?_,fun k o h=>?_⟩
   ·rcases Kg.1 hc with rfl | hc
    ·exact .inr ⟨b,_,rfl,Ll ..⟩
    ·rcases h1 c hc with h | ⟨k,o,e,h⟩
     ·exact .inl (Ky _ h)
     ·exact .inr ⟨k,o,e,Ky _ h⟩
   ·rcases Kg.1 h with h | h
    ·cases h;exact⟨_,rfl⟩
    ·exact h2 k o h
  ·obtain⟨h1,h2⟩:=Zl8 ts vs b;have e:mat (t :: ts) (v :: vs) b=(v :: (mat ts vs b).1,(mat ts vs b).2):=by
    cases t with
    | none=>simp[mat]
    | some sz=>cases v<;>first | (exact absurd ⟨⟨sz,rfl⟩,rfl⟩ hv) | simp[mat]
   rw[e];refine⟨fun c hc=>?_,h2⟩;rcases Kg.1 hc with rfl | hc
   ·exact .inl (Ll ..)
   ·rcases h1 c hc with h | h
    ·exact .inl (Ky _ h)
    ·exact .inr h
theorem Ztn {base:Nat}:∀ {cs:List AV},Wf cs=true→cs.map (ZiS base)=cs
 | [],_=>rfl
 | c :: cs,h=>by
  simp only[Wf,Kd] at h;rw[Ko,Ztn h.2];congr 1
  cases c<;>first | rfl | (simp[Ze1] at h)
theorem Zto:∀ {cs:List AV},Wf cs=true→XD cs=true
 | [],_=>rfl
 | c :: cs,h=>by
  simp only[Wf,Kd] at h;have:=Zto h.2;cases c<;>first | exact this | (simp[Ze1] at h)
theorem Zm0 {slc:List (Option Nat)} {cs:List AV} {ce:Zf} (hb:∀ k,base≤k→k<base+64→k∉g) (hc:Wf cs=true) (h:ZhT slc base cs=some ce) (ad:Q5 base (base+64) ce.eff.adds=true) :
  (∀ id∈Zy ce.eff.val,id∉g)∧∀ k o,(k,o)∈ce.eff.adds→Xt g o=o:=by
 have hr:=J4 ad;unfold ZhT at h;rw[Ztn hc] at h;unfold ZqL at h;rw[Ki (by rw[Zto hc];decide)] at h;split at h
 ·cases h;simp only at hr ⊢;obtain⟨h1,h2⟩:=Zl8 slc cs (base+1);refine⟨fun id aa=>?_,fun k o hm=>?_⟩
  ·simp[Zy,ZA,Zo] at aa;subst aa;exact hb _ (Kq _) (by omega)
  ·rcases Kg.1 hm with hm | hm
   ·cases hm;simp only[Xt];congr 1
    rw[KM (g:=id),LK];intro c ab;rcases h1 c ab with h | ⟨k,o,rfl,h⟩
    ·exact ZmZ (Zgj hc c h)
    ·have:=hr k o (Ky _ h);have hk:=hb k this.1 this.2;simp[ZW,Qh,hk]
   ·obtain⟨sz,rfl⟩:=h2 k o hm;rfl
 ·cases h;simp only at hr ⊢;refine⟨fun id aa=>?_,fun k o hm=>?_⟩
  ·simp[Zy,ZA,Zo] at aa;subst aa;exact hb _ (Kq _) (by omega)
  ·simp at hm;obtain⟨rfl,rfl⟩:=hm;simp only[Xt];congr 1
   rw[KM (g:=id),LK];exact fun c ab=>ZmZ (Zgj hc c ab)
theorem ZAk {c:COp} (hc:Zq5 c=true) (he:∀ x∈ZH c,evO sl' x=evO sl x) (hs:∀ x∈ZH c,ZkP g hp hp' (evO sl x)) {ce:Zf}
  (hb:∀ k,base≤k→k<base+64→k∉g) (h:vop C M sl hp base c=some ce) (ab:Q5 base (base+64) ce.eff.adds=true) (ad:ce.eff.frz=[]) (ho:okV ce.eff.val=true) (hk:kill g ce.eff.val=ce.eff.val):vop C M sl' hp' base c=some ce∧∀ k o,(k,o)∈ce.eff.adds→Xt g o=o:=by
 rw[Xm C M hp' base he];have aa:ce.eff.adds=[]→∀ k o,(k,o)∈ce.eff.adds→Xt g o=o:=fun e k o hm=>by rw[e] at hm;simp at hm
 simp only[Zq5,Lj,Kd] at hc;rcases hc with ((hc | hc) | ⟨hc1,hc2⟩) | hc
 ·cases c<;>simp only[Za2,Ka] at hc<;>simp only[vop] at h ⊢ <;> simp only[ZH] at hs
  case load a s x=>exact⟨Zze h (ZAi (hs x (by simp)) (Zb1 h) ho hk),aa (QV h)⟩
  case slice s x lo hi=>
   rw[ZhG (hs x (by simp))];exact⟨h,aa (QV h)⟩
  case slice0 x hi mx=>
   unfold slice0 at h ⊢;rw[Zfm (hs x (by simp))];exact⟨h,aa (QV h)⟩
  case iaS s x i=>
   obtain⟨n,h1,h⟩:=Za h;rw[h1,Zg];unfold Zjm at h ⊢;rw[Zce (hs x (by simp))];refine⟨h,aa ?_⟩;split at h
   ·exact QV h
   ·cases h
  case len x=>
   rw[Zfm (hs x (by simp))];refine⟨h,aa ?_⟩;obtain⟨n,_,h⟩:=Za h;exact Qf h
 ·cases c<;>simp only[ZtC,Ka] at hc
  simp only[vop] at h ⊢;obtain⟨h1,h2,h3⟩:=Zji h ad hp';refine⟨h1,fun k o hm=>?_⟩;obtain⟨sz,xs,e,f,rfl⟩:=h3 k o hm;rfl
 ·rw[← ZkQ (hp:=hp) hc1];exact⟨h,aa (Zyb hc1 hc2 h)⟩
 ·cases c<;>simp only[Zow,Ka] at hc
  simp only[vop] at h ⊢;exact⟨h,(Zm0 hb hc h ab).2⟩
theorem Zyc {c:COp} (hc:Zk6 c=true) (he:∀ x∈ZH c,evO sl' x=evO sl x) (hs:∀ x∈ZH c,ZkP g hp hp' (evO sl x)) {ce:Zf}
  (hn:∀ x∈ZH c,∀ id∈Zy (evO sl x),id∉g) (hb:∀ k,base≤k→k<base+64→k∉g)
  (h:vop C M sl' hp' base c=some ce) (ad:Q5 base (base+64) ce.eff.adds=true) (ae:ce.eff.frz=[]) (ho:okV ce.eff.val=true):vop C M sl hp base c=some ce∧kill g ce.eff.val=ce.eff.val∧∀ k o,(k,o)∈ce.eff.adds→Xt g o=o:=by
 rw[Xm C M hp' base he] at h;have aa:ce.eff.adds=[]→∀ k o,(k,o)∈ce.eff.adds→Xt g o=o:=fun e k o hm=>by rw[e] at hm;simp at hm
 have names:(∀ id∈Zy ce.eff.val,id∉g)→kill g ce.eff.val=ce.eff.val:=Zzd ho;cases c<;>simp only[Zk6,Ka] at hc<;>simp only[vop] at h ⊢ <;> simp only[ZH] at hs hn
 case alloc slc cs=>
  obtain⟨h1,h2⟩:=Zm0 hb hc h ad;exact⟨h,names h1,h2⟩
 case buildSl s xs=>
  obtain⟨h1,h2,h3⟩:=Zji h ae hp;refine⟨h1,names fun id ab=>?_,fun k o hm=>?_⟩
  ·rcases h2 with h2 | h2
   ·rw[h2] at ab;simp[Zy,ZA,Zo] at ab
   ·rw[h2] at ab;simp[Zy,ZA,Zo] at ab;subst ab;exact hb _ (Kq _) (by omega)
  ·obtain⟨sz,xs,e,f,rfl⟩:=h3 k o hm;rfl
 case load a s x=>
  obtain⟨h1,h2⟩:=ZAj (hs x (by simp)) (Zb1 h) ho;exact⟨Zze h h1,h2,aa (QV h)⟩
 case nilCheck x=>
  have hx:=hn x (by simp);refine⟨h,names ?_,aa ?_⟩
  ·unfold Zbt at h;split at h<;>rename_i hv<;>first | (cases h;done) | (cases h;show ∀ id∈Zy _,_;rw[← hv];exact hx)
  ·unfold Zbt at h;split at h<;>first | exact Qf h | cases h
 case bin op eq x y=>
  have hd:∃ d,ce.eff.val=.d d:=by
   have o2:∀ {a b:AV},WP (vbin op a b)=some ce→∃ d,ce.eff.val=.d d:=fun {a b} h=>by
    have h1:=Zb1 h;unfold vbin at h1;split at h1
    ·unfold ZaM at h1;split at h1
     ·obtain⟨y,_,h1⟩:=Za h1;exact⟨_,(Option.some.inj h1).symm⟩
     ·obtain⟨y,_,h1⟩:=Za h1;exact⟨_,(Option.some.inj h1).symm⟩
     ·split at h1
      ·obtain⟨y,_,h1⟩:=Za h1;have:=Option.some.inj h1;exact⟨_,this.symm⟩
      ·cases h1
    ·obtain⟨y,_,h1⟩:=Za h1;have:=Option.some.inj h1;exact⟨_,this.symm⟩
    ·cases h1
   unfold ZjT at h;split at h
   ·split at h
    ·have h1:=Zb1 h;unfold Zs7 at h1;split at h1
     ·exact⟨_,(Option.some.inj h1).symm⟩
     ·exact⟨_,(Option.some.inj h1).symm⟩
     ·cases h1
    ·cases h
   ·exact o2 h
  obtain⟨d,hd⟩:=hd;refine⟨h,by rw[hd];rfl,aa ?_⟩;unfold ZjT at h;split at h
  ·split at h
   ·exact QV h
   ·cases h
  ·exact QV h
 case un op x=>
  have hd:∃ d,ce.eff.val=.d d:=by
   have h1:=Zb1 h;unfold vun at h1;split at h1
   ·unfold neg1 at h1;split at h1
    ·exact⟨_,(Option.some.inj h1).symm⟩
    ·cases h1
   ·unfold not1 at h1;split at h1
    ·exact⟨_,(Option.some.inj h1).symm⟩
    ·cases h1
   ·cases h1
  obtain⟨d,hd⟩:=hd;exact⟨h,by rw[hd];rfl,aa (QV h)⟩
 case convI k x=>
  unfold Go.Abs.convI at h ⊢;split at h
  ·exact⟨h,by cases h;rfl,aa (Qf h)⟩
  ·cases h
 case shift off x=>
  have hx:=hn x (by simp);refine⟨h,names ?_,aa ?_⟩
  ·unfold Uk at h;split at h<;>rename_i hv<;>first | (cases h;done) | skip
   ·cases h;rw[hv] at hx;simpa [Zy,ZA,Zo] using hx
   ·cases h;rw[hv] at hx;simpa [Zy,ZA,Zo] using hx
   ·cases h;simp[Zy,ZA,Zo]
  ·unfold Uk at h;split at h<;>first | exact Qf h | cases h
 case slice s x lo hi=>
  have hx:=hn x (by simp);rw[ZhG (hs x (by simp))] at h;refine⟨h,names ?_,aa (QV h)⟩;have h1:=Zb1 h;cases hv:evO sl x<;>rw[hv] at h1 hx<;>simp only[WC] at h1<;>first | (cases h1;done) | skip
  case d y=>
   cases y<;>simp only[WC] at h1<;>first | (cases h1;done) | skip
   split at h1
   ·obtain⟨b,_,h1⟩:=Za h1;rw[← Option.some.inj h1];simp[Zy,ZA,Zo]
   ·cases h1
  case nil=>obtain⟨b,_,h1⟩:=Za h1;rw[← Option.some.inj h1];simp[Zy,ZA,Zo]
  case own id=>
   unfold ZdE at h1;split at h1
   ·split at h1
    ·unfold ZwO at h1;split at h1
     ·rw[← Option.some.inj h1];exact hx
     ·obtain⟨b,_,h1⟩:=Za h1;rw[← Option.some.inj h1];simpa [Zy,ZA,Zo] using hx
    ·cases h1
   ·cases h1
  case ownv id off n=>
   unfold Zbs at h1;split at h1
   ·split at h1
    ·obtain⟨b,_,h1⟩:=Za h1;rw[← Option.some.inj h1];simpa [Zy,ZA,Zo] using hx
    ·cases h1
   ·cases h1
 case sliceS x lo hi=>
  have hd:∃ d,ce.eff.val=.d d:=by
   have h1:=Zb1 h;unfold sliceS at h1;split at h1
   ·obtain⟨b,_,h1⟩:=Za h1;exact⟨_,(Option.some.inj h1).symm⟩
   ·cases h1
  obtain⟨d,hd⟩:=hd;exact⟨h,by rw[hd];rfl,aa (QV h)⟩
 case lenS x=>
  obtain⟨n,h1,h⟩:=Za h;refine⟨by rw[h1,Zg];exact h,by cases h;rfl,aa (Qf h)⟩
 case iaS s x i=>
  have hx:=hn x (by simp);obtain⟨n,h1,h⟩:=Za h;rw[h1,Zg];unfold Zjm at h ⊢;rw[Zce (hs x (by simp))] at h;refine⟨h,names ?_,aa ?_⟩
  ·split at h
   ·have h1:=Zb1 h;cases hv:evO sl x<;>rw[hv] at h1 hx<;>simp only[QJ] at h1<;>first | (cases h1;done) | skip
    case d y=>
     cases y<;>simp only[QJ] at h1<;>first | (cases h1;done) | skip
     obtain⟨b,_,h1⟩:=Za h1;unfold Zzl at h1;split at h1
     ·rw[← Option.some.inj h1];simp[Zy,ZA,Zo]
     ·cases h1
    case own id=>
     unfold Zeg at h1;split at h1
     ·split at h1
      ·rw[← Option.some.inj h1];simpa [Zy,ZA,Zo] using hx
      ·cases h1
     ·split at h1
      ·rw[← Option.some.inj h1];simpa [Zy,ZA,Zo] using hx
      ·cases h1
     ·cases h1
    case ownv id off n=>
     unfold ZdD at h1;split at h1
     ·split at h1
      ·rw[← Option.some.inj h1];simpa [Zy,ZA,Zo] using hx
      ·cases h1
     ·cases h1
   ·cases h
  ·split at h
   ·exact QV h
   ·cases h
 case len x=>
  rw[Zfm (hs x (by simp))] at h;obtain⟨n,h1,h2⟩:=Za h;exact⟨h,by cases h2;rfl,aa (Qf h2)⟩
end
end Go.Abs
