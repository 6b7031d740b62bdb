/- Own text. -/
import Derived.Test.YtefabmohhbhlfaaAbsDraw3
import Derived.Test.YtefabmohhbhlfaaAbsSound5
set_option linter.unusedVariables false
set_option linter.unusedSimpArgs false
namespace Go.Abs
open Go
theorem Zok {v:AV} (h:okC v=true):okV v=true:=by
 cases v<;>first | exact h | cases h
theorem Zem {g:List Nat} {v:AV} (h:okC (ZT g v)=true):ZT g v=v:=by
 cases v<;>simp only[ZT] at h ⊢ <;> first | rfl | (split at h<;>rename_i h' <;> first | (cases h;done) | rw[Kn h'])
theorem ZcJ {g:List Nat}:∀ {cs:List AV},ZkV (cs.map (ZT g))=true→cs.map (ZT g)=cs
 | [],_=>rfl
 | c :: cs,h=>by
  simp only[Kq,ZkV,Kb] at h ⊢;rw[Zem h.1,ZcJ h.2]
theorem JV {g:List Nat} {v:AV} (h:okV (ZF g v)=true):ZF g v=v:=by
 cases v with
 | agg cs=>simp only[ZF,okV] at h ⊢;rw[ZcJ h]
 | clo f cs=>simp only[ZF,okV,okC] at h;cases h
 | tup vs=>rfl
 | _=>
  simp only[ZF] at h ⊢;refine Zem ?_;revert h;simp only[ZT]
  first | exact id | (split<;>first | exact id | (intro h;cases h))
theorem UE {g:List Nat} {v:AV} (h:okV (kill g v)=true):kill g v=v:=by
 cases v with
 | tup vs=>
  cases vs with
  | nil=>rfl
  | cons x r=>simp only[kill,Kq,okV,okC] at h;cases h
 | _=>simp only[kill] at h ⊢;exact JV h
theorem ZlN {g:List Nat} {v:AV} (hn:∀ id∈Zf v,id∉g):ZT g v=v:=by
 cases v<;>simp only[ZT]<;>first | rfl | (rw[Kn];simpa [Zf] using hn)
theorem Zol {g:List Nat} {v:AV} (h:okV v=true) (hn:∀ id∈Zo v,id∉g):kill g v=v:=by
 cases v with
 | tup vs=>
  cases vs with
  | nil=>rfl
  | cons x r=>simp only[okV,okC] at h;cases h
 | clo f cs=>simp only[okV,okC] at h;cases h
 | agg cs=>
  simp only[kill,ZF];congr 1
  rw[KJ (g:=id),Lw];intro c hc;exact ZlN fun id aa=>hn id (by simp only[Zo,Zr,Ks];exact⟨c,hc,aa⟩)
 | _=>simp only[kill,ZF];exact ZlN hn
theorem Zqv {g:List Nat} {v:AV} (h:kill g v=v):∀ id∈Zo v,id∉g:=fun id aa=>(Zjg g v id (by rw[h];exact aa)).2
theorem Zpk {g:List Nat} {c:AV} (h:okC c=true) (h1:ZT g c=c):ZF g c=c:=by
 cases c<;>simp only[ZF]<;>first | exact h1 | cases h
def Uk (g:List Nat):Option Zh→Option Zh→Prop
 | none,none=>True
 | some (.row s xs _ _),some (.row s' xs' _ _)=>s'=s∧xs'=xs
 | some (.box cs),some (.box cs')=>cs'=cs.map (ZF g)
 | some (.tree s n xs l),some (.tree s' n' xs' l')=>s'=s∧n'=n∧xs'=xs∧l'=YC g l
 | some .gone,some .gone=>True
 | _,_=>False
theorem ZlO {g:List Nat} {b:Bool} (o:Option Zh):Uk g o ((o.map (QF g)).map fun o=>if b then XW o else o):=by
 cases o with
 | none=>trivial
 | some o=>cases o<;>cases b<;>exact(by first | exact⟨rfl,rfl⟩ | exact rfl | exact⟨rfl,rfl,rfl,rfl⟩ | exact trivial)
theorem Zjs {g:List Nat}:∀ {l:List AV} {ds:List D},Zad l=some ds→l.map (ZF g)=l
 | [],ds,_=>rfl
 | v :: l,ds,h=>by
  simp only[Zad] at h;obtain⟨x,h1,h⟩:=Za h;obtain⟨aa,h2,h⟩:=Za h;have:ZF g v=v:=by cases v<;>first | rfl | cases h1
  rw[Kq,this,Zjs h2]
theorem ZgO {g:List Nat}:∀ {l:List AV} {ds:List D},Zad (l.map (ZF g))=some ds→l.map (ZF g)=l
 | [],ds,_=>rfl
 | v :: l,ds,h=>by
  simp only[Kq,Zad] at h;obtain⟨x,h1,h⟩:=Za h;obtain⟨aa,h2,h⟩:=Za h;have hv:ZF g v=v:=by
   refine JV ?_;cases hk:ZF g v<;>rw[hk] at h1<;>first | rfl | cases h1
  rw[Kq,hv,ZgO h2]
theorem Za9 (l:List AV):(∃ ds,Zad l=some ds∧VT l=.d (.agg ds))∨(Zad l=none∧(VT l=.junk∨VT l=.agg l)):=by
 unfold VT;cases h:Zad l with
 | some ds=>exact .inl ⟨ds,rfl,rfl⟩
 | none=>
  refine .inr ⟨rfl,?_⟩;unfold Vw;split
  ·rename_i h;cases h
  ·split
   ·exact .inl rfl
   ·exact .inr rfl
theorem Zde:∀ {l:List AV},ZkV l=true→∀ c∈l,okC c=true
 | [],_,c,hc=>by simp at hc
 | x :: l,h,c,hc=>by
  simp only[ZkV,Kb] at h;rcases Kf.1 hc with rfl | hc
  ·exact h.1
  ·exact Zde h.2 c hc
theorem Zpl {g:List Nat} {l:List AV} (h:okV (VT l)=true) (hk:kill g (VT l)=VT l):l.map (ZF g)=l:=by
 rcases Za9 l with ⟨ds,h1,h2⟩ | ⟨h1,h2 | h2⟩
 ·exact Zjs h1
 ·rw[h2] at h;cases h
 ·rw[h2] at h hk;simp only[kill,ZF,AV.agg.injEq] at hk;simp only[okV] at h;have hm:=Zde h;have aa : ∀ c∈l,ZT g c=c:=by
   intro c hc;have:=ZcJ (g:=g) (cs:=l) (by rw[hk];exact h);exact Zem (by
    have h3:ZT g c∈l.map (ZT g):=List.mem_map_of_mem hc;rw[hk] at h3;exact hm _ h3)
  rw[KJ (g:=id),Lw];intro c hc;exact Zpk (hm c hc) (aa c hc)
theorem Zpm {g:List Nat} {l:List AV} (h:okV (VT (l.map (ZF g)))=true):l.map (ZF g)=l:=by
 rcases Za9 (l.map (ZF g)) with ⟨ds,h1,h2⟩ | ⟨h1,h2 | h2⟩
 ·exact ZgO h1
 ·rw[h2] at h;cases h
 ·rw[h2] at h;simp only[okV] at h;have hm:=Zde h;rw[KJ (g:=id),Lw];intro c hc;exact JV (Zok (hm _ (List.mem_map_of_mem hc)))
theorem Znb {g:List Nat} {v:AV} (h:okV v=true) (hk:kill g v=v):ZF g v=v:=by
 cases v with
 | tup vs=>rfl
 | _=>simp only[kill] at hk;exact hk
theorem Znc {g:List Nat} {v:AV} (h:okV v=true) (hk:ZF g v=v):kill g v=v:=by
 cases v with
 | tup vs=>
  cases vs with
  | nil=>rfl
  | cons x r=>simp only[okV,okC] at h;cases h
 | _=>simp only[kill];exact hk
theorem Zcn {α β:Type} (f:α→β) (l:List α) (a b:Nat):((l.map f).drop a).take b=((l.drop a).take b).map f:=by
 rw[← List.map_drop,← List.map_take]
theorem Zfd (g:List Nat) (c:AV):Zdi (ZF g c)=ZF g (Zdi c):=by
 have aa:∀ v:AV,(∀ a b,v≠.bbuf a b)→Zdi v=v:=fun v h'=>by cases v<;>first | rfl | exact absurd rfl (h' _ _)
 by_cases h' : ∃ a b,c=.bbuf a b
 ·obtain⟨a,b,rfl⟩:=h';rfl
 ·have h2:∀ a b,c≠.bbuf a b:=fun a b e=>h' ⟨a,b,e⟩;rw[aa c h2,aa];exact fun a b e=>h2 a b ((VC g c a b).1 e)
theorem ZlP {g:List Nat} {cs:List AV} {a:Bool} {s off:Nat} {v:AV} (h:WR a s off (some (.box cs))=some v) (ho:okV v=true) (hk:kill g v=v):WR a s off (some (.box (cs.map (ZF g))))=some v:=by
 unfold WR at h ⊢;cases a with
 | true=>
  simp only[Kk] at h ⊢;split at h
  ·rename_i hl;cases h;rw[Ko (by simpa using hl),Zcn,Zpl ho hk]
  ·cases h
 | false=>
  simp only[Ka,Ki] at h ⊢;obtain⟨c,hc,rfl⟩:=Option.map_eq_some_iff.1 h;rw[Kx,hc];simp only[KW];rw[Zfd,Znb ho hk]
theorem ZlQ {g:List Nat} {cs:List AV} {a:Bool} {s off:Nat} {v:AV} (h:WR a s off (some (.box (cs.map (ZF g))))=some v) (ho:okV v=true):WR a s off (some (.box cs))=some v∧kill g v=v:=by
 unfold WR at h ⊢;cases a with
 | true=>
  simp only[Kk] at h ⊢;split at h
  ·rename_i hl;cases h;rw[Zcn] at ho ⊢;have he:=Zpm ho;rw[he] at ho ⊢;refine⟨by rw[Ko (by simpa using hl)],?_⟩;rcases Za9 ((cs.drop off).take s) with ⟨ds,h1,h2⟩ | ⟨h1,h2 | h2⟩
   ·rw[h2];rfl
   ·rw[h2] at ho;cases ho
   ·rw[h2] at ho ⊢;simp only[okV] at ho;have hm:=Zde ho;simp only[kill,ZF,AV.agg.injEq];rw[KJ (g:=id),Lw];intro c hc;have h3:ZF g c=c:=by
     refine JV ?_;have h4:ZF g c∈((cs.drop off).take s).map (ZF g):=List.mem_map_of_mem hc;rw[he] at h4;exact Zok (hm _ h4)
    have:=hm c hc;cases c<;>first | exact h3 | cases this
  ·cases h
 | false=>
  simp only[Ka,Ki] at h ⊢;rw[Kx] at h;cases hc:cs[off]? with
  | none=>rw[hc] at h;cases h
  | some c=>
   rw[hc] at h;simp only[KW,Option.some.injEq] at h;rw[Zfd] at h;have h3:ZF g (Zdi c)=Zdi c:=JV (by rw[h];exact ho);rw[h3] at h;subst h;exact⟨rfl,Znc ho h3⟩
theorem ZsN {g:List Nat} {o o' : Option Zh} (h:Uk g o o'):VU o'=VU o:=by
 cases o with
 | none=>cases o' with
  | none=>rfl
  | some o'=>cases h
 | some o=>cases o' with
  | none=>cases o<;>cases h
  | some o' =>
   have tr:∀ s n xs l,VU (some (.tree s n xs (YC g l)))=VU (some (.tree s n xs l)):=by
    intro s n xs l;rcases l with _ | ⟨_ | nm,_⟩
    ·rfl
    ·rfl
    ·simp only[YC];split<;>rfl
   cases o<;>cases o' <;> simp only[Uk] at h<;>first | (cases h;done) | rfl | (obtain⟨rfl,rfl⟩:=h;rfl) | (obtain⟨rfl,rfl,rfl,rfl⟩:=h;exact tr _ _ _ _)
theorem WY {g:List Nat} {o o' : Option Zh} (h:Uk g o o'):(∃ s xs e f e' f',o=some (.row s xs e f)∧o'=some (.row s xs e' f'))∨(o=none∧o'=none)∨(∃ cs,o=some (.box cs)∧o'=some (.box (cs.map (ZF g))))∨(o=some .gone∧o'=some .gone)∨(∃ s n xs l,o=some (.tree s n xs l)∧o'=some (.tree s n xs (YC g l))):=by
 cases o with
 | none=>cases o' with
  | none=>exact .inr (.inl ⟨rfl,rfl⟩)
  | some o'=>cases h
 | some o=>cases o' with
  | none=>cases o<;>cases h
  | some o' =>
   cases o with
   | box cs=>cases o' with
    | box cs'=>simp only[Uk] at h;subst h;exact .inr (.inr (.inl ⟨cs,rfl,rfl⟩))
    | row _ _ _ _=>cases h
    | gone=>cases h
    | tree _ _ _ _=>cases h
   | row s xs e f=>cases o' with
    | box cs'=>cases h
    | row s' xs' e' f'=>simp only[Uk] at h;obtain⟨rfl,rfl⟩:=h;exact .inl ⟨_,_,_,_,_,_,rfl,rfl⟩
    | gone=>cases h
    | tree _ _ _ _=>cases h
   | gone=>cases o' with
    | box cs'=>cases h
    | row _ _ _ _=>cases h
    | gone=>exact .inr (.inr (.inr (.inl ⟨rfl,rfl⟩)))
    | tree _ _ _ _=>cases h
   | tree s n xs l=>cases o' with
    | box cs'=>cases h
    | row _ _ _ _=>cases h
    | gone=>cases h
    | tree s' n' xs' l'=>simp only[Uk] at h;obtain⟨rfl,rfl,rfl,rfl⟩:=h;exact .inr (.inr (.inr (.inr ⟨_,_,_,_,rfl,rfl⟩)))
section
variable {g:List Nat} {o o' : Option Zh}
theorem Zkz (h:Uk g o o') (sz id n:Nat):Jn sz id n o'=Jn sz id n o:=by
 rcases WY h with ⟨s,xs,e,f,e',f',rfl,rfl⟩ | ⟨rfl,rfl⟩ | ⟨cs,rfl,rfl⟩ | ⟨rfl,rfl⟩ | ⟨s,n,xs,l,rfl,rfl⟩<;>rfl
theorem ZiM (h:Uk g o o') (sz id off m n:Nat):UL sz id off m n o'=UL sz id off m n o:=by
 rcases WY h with ⟨s,xs,e,f,e',f',rfl,rfl⟩ | ⟨rfl,rfl⟩ | ⟨cs,rfl,rfl⟩ | ⟨rfl,rfl⟩ | ⟨s,n,xs,l,rfl,rfl⟩<;>rfl
theorem ZiN (h:Uk g o o') (s id:Nat) (lo hi:Option AV):UM s id lo hi o'=UM s id lo hi o:=by
 rcases WY h with ⟨s,xs,e,f,e',f',rfl,rfl⟩ | ⟨rfl,rfl⟩ | ⟨cs,rfl,rfl⟩ | ⟨rfl,rfl⟩ | ⟨s,n,xs,l,rfl,rfl⟩<;>rfl
theorem ZgP (h:Uk g o o') (s id off n:Nat) (lo hi:Option AV):WA s id off n lo hi o'=WA s id off n lo hi o:=by
 rcases WY h with ⟨s,xs,e,f,e',f',rfl,rfl⟩ | ⟨rfl,rfl⟩ | ⟨cs,rfl,rfl⟩ | ⟨rfl,rfl⟩ | ⟨s,n,xs,l,rfl,rfl⟩<;>rfl
theorem ZkA {i off:Nat} {l:Option (Option Nat×Nat×Nat)} {x:D} {v:AV} (h:V3 i off l x=some v) (hk:kill g v=v):V3 i off (YC g l) x=some v:=by
 unfold V3 at h ⊢;split at h
 ·unfold Zfm at h;split at h
  ·rename_i nm i' c;split at h
   ·rename_i hc;cases h;have:g.contains nm=false:=by
     cases hg:g.contains nm with
     | false=>rfl
     | true=>simp only[kill,ZF,ZT,hg,Kk] at hk;cases hk
    simp only[YC,this,Ka,Ki,Zfm,hc,and_self,Kk]
   ·cases h
  ·cases h
 ·exact h
 ·cases h
theorem ZkB {i off:Nat} {l:Option (Option Nat×Nat×Nat)} {x:D} {v:AV} (h:V3 i off (YC g l) x=some v):V3 i off l x=some v∧kill g v=v:=by
 unfold V3 at h ⊢;split at h
 ·unfold Zfm at h;split at h
  ·rename_i nm i' c hl;split at h
   ·rename_i hc;cases h;unfold YC at hl;split at hl
    ·rename_i ab q;split at hl
     ·cases hl
     ·rename_i hg;cases hl;simp only[L4] at hg;exact⟨by simp only[Zfm,hc,and_self,Kk],by simp only[kill,ZF,ZT,hg,Ka,Ki]⟩
    ·rename_i aa;subst hl;exact absurd rfl (aa _ _)
   ·cases h
  ·cases h
 ·split at h
  ·rename_i hp;cases h;exact⟨by rw[Ko hp],rfl⟩
  ·cases h
 ·cases h
theorem Zdf {id:Nat} (h:Uk g o o') {a:Bool} {s sz i off:Nat} {v:AV}:(V4 id a s sz i off o=some v→kill g v=v→V4 id a s sz i off o'=some v)∧(V4 id a s sz i off o'=some v→V4 id a s sz i off o=some v∧kill g v=v):=by
 have aa:∀ {cs:List D},UJ a s off cs=some v→∃ d,v=.d d:=by
  intro cs h;unfold UJ at h;split at h
  ·split at h
   ·cases h;exact⟨_,rfl⟩
   ·cases h
  ·unfold asD at h;obtain⟨y,_,h⟩:=Za h;cases h;exact⟨_,rfl⟩
 rcases WY h with ⟨s,xs,e,f,e',f',rfl,rfl⟩ | ⟨rfl,rfl⟩ | ⟨cs,rfl,rfl⟩ | ⟨rfl,rfl⟩ | ⟨s,n,xs,l,rfl,rfl⟩
 ·refine⟨fun h _=>h,fun h=>⟨h,?_⟩⟩;simp only[V4] at h;split at h
  ·obtain⟨x,_,h⟩:=Za h;unfold Zdj at h;split at h
   ·obtain⟨d,rfl⟩:=aa h;rfl
   ·cases h
  ·cases h
 ·exact⟨fun h _=>(by cases h),fun h=>(by cases h)⟩
 ·exact⟨fun h _=>(by cases h),fun h=>(by cases h)⟩
 ·exact⟨fun h _=>(by cases h),fun h=>(by cases h)⟩
 ·simp only[V4];split
  ·split
   ·exact⟨fun h _=>(by cases h),fun h=>(by cases h)⟩
   ·constructor
    ·intro hh hk;obtain⟨x,h1,hh⟩:=Za hh;rw[h1,Zc];exact ZkA hh hk
    ·intro hh;obtain⟨x,h1,hh⟩:=Za hh;rw[h1,Zc];exact ZkB hh
  ·exact⟨fun h _=>(by cases h),fun h=>(by cases h)⟩
end
section
variable {hp hp' : Hp} {g:List Nat}
def Zdg (g:List Nat) (hp hp' : Hp) (v:AV):Prop:=∀ k∈Zo v,Uk g (lkp hp k) (lkp hp' k)
theorem Zqw {o o' : Option Zh} (h:Uk g o o'):Zgk o'=Zgk o:=by
 rcases WY h with ⟨s,xs,e,f,e',f',rfl,rfl⟩ | ⟨rfl,rfl⟩ | ⟨cs,rfl,rfl⟩ | ⟨rfl,rfl⟩ | ⟨s,n,xs,l,rfl,rfl⟩<;>rfl
theorem JW {v:AV} (h:Zdg g hp hp' v):Jz hp' v=Jz hp v:=by
 cases v<;>simp only[Jz]
 case d x=>cases x<;>rfl
 case own id=>rw[Zqw (h id (by simp[Zo,Zr,Zf]))]
theorem Uc {v:AV} (h:Zdg g hp hp' v) (sz n:Nat):Qd hp' sz n v=Qd hp sz n v:=by
 cases v<;>simp only[Qd]
 case d x=>cases x<;>rfl
 case own id=>rw[Zkz (h id (by simp[Zo,Zr,Zf]))]
 case ownv id off n=>rw[ZiM (h id (by simp[Zo,Zr,Zf]))]
theorem Zba {v:AV} (h:Zdg g hp hp' v) (s:Nat) (lo hi:Option AV):Yl hp' s lo hi v=Yl hp s lo hi v:=by
 cases v<;>simp only[Yl]
 case d x=>cases x<;>rfl
 case own id=>rw[ZiN (h id (by simp[Zo,Zr,Zf]))]
 case ownv id off n=>rw[ZgP (h id (by simp[Zo,Zr,Zf]))]
theorem Zpn {x v:AV} (hs:Zdg g hp hp' x) {a:Bool} {s:Nat} (h:Vj hp a s x=some v) (ho:okV v=true) (hk:kill g v=v):Vj hp' a s x=some v:=by
 cases x<;>simp only[Vj] at h ⊢ <;> first | (cases h;done) | skip
 case ptr id off=>
  rcases WY (hs id (by simp[Zo,Zr,Zf])) with ⟨_,_,_,_,_,_,e1,e2⟩ | ⟨e1,e2⟩ | ⟨cs,e1,e2⟩ | ⟨e1,e2⟩ | ⟨_,_,_,_,e1,e2⟩
  ·rw[e1] at h;cases h
  ·rw[e1] at h;cases h
  ·rw[e1] at h;rw[e2];exact ZlP h ho hk
  ·rw[e1] at h;cases h
  ·rw[e1] at h;cases h
 case prow id sz i off=>exact(Zdf (hs id (by simp[Zo,Zr,Zf]))).1 h hk
 case pim cs=>exact h
theorem Zqx {a:Bool} {s off:Nat} {cs:List D} {v:AV} (h:UJ a s off cs=some v):∃ d,v=.d d:=by
 unfold UJ at h;split at h
 ·split at h
  ·cases h;exact⟨_,rfl⟩
  ·cases h
 ·unfold asD at h;obtain⟨y,_,h⟩:=Za h;cases h;exact⟨_,rfl⟩
theorem Zpo {x v:AV} (hs:Zdg g hp hp' x) {a:Bool} {s:Nat} (h:Vj hp' a s x=some v) (ho:okV v=true):Vj hp a s x=some v∧kill g v=v:=by
 cases x<;>simp only[Vj] at h ⊢ <;> first | (cases h;done) | skip
 case ptr id off=>
  rcases WY (hs id (by simp[Zo,Zr,Zf])) with ⟨_,_,_,_,_,_,e1,e2⟩ | ⟨e1,e2⟩ | ⟨cs,e1,e2⟩ | ⟨e1,e2⟩ | ⟨_,_,_,_,e1,e2⟩
  ·rw[e2] at h;cases h
  ·rw[e2] at h;cases h
  ·rw[e2] at h;rw[e1];exact ZlQ h ho
  ·rw[e2] at h;cases h
  ·rw[e2] at h;cases h
 case prow id sz i off=>
  exact(Zdf (hs id (by simp[Zo,Zr,Zf]))).2 h
 case pim cs=>
  obtain⟨d,rfl⟩:=Zqx h;exact⟨h,rfl⟩
theorem Zfe {x:AV} {d:D} {e:Bool} (h:Uj hp x=some (d,e,[])) (hp' : Hp):Uj hp' x=some (d,e,[]):=by
 cases x<;>simp only[Uj] at h ⊢ <;> first | exact h | skip
 case own id=>obtain⟨q,_,h⟩:=Za h;simp at h
theorem Zff:∀ {xs:List AV} {d:List D} {e:Bool},Yo hp xs=some (d,e,[])→∀ hp' : Hp,Yo hp' xs=some (d,e,[])
 | [],d,e,h,hp'=>h
 | x :: xs,d,e,h,hp'=>by
  simp only[Yo] at h ⊢;obtain⟨⟨d1,e1,l1⟩,h1,h⟩:=Za h;obtain⟨⟨d2,e2,l2⟩,h2,h⟩:=Za h;have hl:l1=[]∧l2=[]:=by
   simp only at h;split at h
   ·simp only[Option.some.injEq,Prod.mk.injEq,List.append_eq_nil_iff] at h;exact h.2.2
   ·cases h
  obtain⟨rfl,rfl⟩:=hl;rw[Zfe h1 hp',Zc,Zff h2 hp',Zc];exact h
theorem Znd {x:AV} {d:D} {e:Bool} (h:give hp x=some (d,e,[])) (hp' : Hp):give hp' x=some (d,e,[]):=by
 cases x<;>simp only[give] at h ⊢ <;> first | exact Zfe h hp' | skip
 case agg cs=>
  obtain⟨⟨d1,e1,l1⟩,h1,h⟩:=Za h;simp only[Option.some.injEq,Prod.mk.injEq] at h;obtain⟨rfl,rfl,rfl⟩:=h;rw[Zff h1 hp',Zc]
theorem Zco:∀ {xs:List AV} {d:List D} {e:Bool},Y2 hp xs=some (d,e,[])→∀ hp' : Hp,Y2 hp' xs=some (d,e,[])
 | [],d,e,h,hp'=>h
 | x :: xs,d,e,h,hp'=>by
  simp only[Y2] at h ⊢;obtain⟨⟨d1,e1,l1⟩,h1,h⟩:=Za h;obtain⟨⟨d2,e2,l2⟩,h2,h⟩:=Za h;have hl:l1=[]∧l2=[]:=by
   simp only at h;split at h
   ·simp only[Option.some.injEq,Prod.mk.injEq,List.append_eq_nil_iff] at h;exact h.2.2
   ·cases h
  obtain⟨rfl,rfl⟩:=hl;rw[Znd h1 hp',Zc,Zco h2 hp',Zc];exact h
theorem Zcp {base s:Nat} {vs:List AV} {ce:Zb} (h:buildSl hp base s vs=some ce) (hf:ce.eff.frz=[]) (hp' : Hp) :
  buildSl hp' base s vs=some ce∧(ce.eff.val=.nil∨ce.eff.val=.own base)∧(∀ k o,(k,o)∈ce.eff.adds→∃ sz xs e f,o=.row sz xs e f):=by
 cases vs with
 | nil=>simp only[buildSl,Qe] at h ⊢;cases h;exact⟨rfl,.inl rfl,fun k o h=>by simp at h⟩
 | cons v vs=>
  simp only[buildSl] at h ⊢;obtain⟨⟨ds,e,l⟩,h1,h⟩:=Za h;unfold ZpD at h;split at h
  ·rename_i hc;cases h;simp only at hf;subst hf;rw[Zco h1 hp',Zc];refine⟨?_,.inr rfl,fun k o ho=>?_⟩
   ·unfold ZpD;rw[Ko hc]
   ·simp at ho;obtain⟨rfl,rfl⟩:=ho;exact⟨_,_,_,_,rfl⟩
  ·cases h
end
theorem Zdh {C:Orc} {M:Zg} {sl:Sl} {hp hp' : Hp} {base:Nat} {c:COp} (hc:YK c=true):vop C M sl hp base c=vop C M sl hp' base c:=by
 cases c<;>first | rfl | (simp[YK] at hc)
section
variable {C:Orc} {M:Zg} {sl sl' : Sl} {hp hp' : Hp} {base:Nat} {g:List Nat}
theorem ZR {v:AV} {ce:Zb} (h:Qe v=some ce):ce.eff.adds=[]:=by cases h;rfl
theorem Qk {v:Option AV} {ce:Zb} (h:YA v=some ce):ce.eff.adds=[]:=by obtain⟨v,_,h⟩:=Za h;exact ZR h
theorem WZ {v:Option AV} {ce:Zb} (h:YA v=some ce):v=some ce.eff.val:=by obtain⟨v,rfl,h⟩:=Za h;cases h;rfl
theorem Zom {v:Option AV} {ce:Zb} {w:Option AV} (h:YA v=some ce) (hw:w=some ce.eff.val):YA w=some ce:=by
 obtain⟨v,rfl,h⟩:=Za h;cases h;rw[hw];rfl
theorem Zne {c:COp} (hc:YK c=true) (hv:Zny c=true) {ce:Zb} (h:vop C M sl hp base c=some ce):ce.eff.adds=[]:=by
 cases c<;>simp only[YK,Zny,Ka] at hc hv<;>simp only[vop] at h
 case stuck=>cases h
 case move x=>exact ZR h
 case pick c a b=>
  unfold Zbl at h;split at h
  ·split at h<;>exact ZR h
  ·cases h
 case build zs ps=>obtain⟨cs,_,h⟩:=Za h;exact ZR h
 case nilCheck x=>unfold WB at h;split at h<;>first | exact ZR h | cases h
 case bin op eq x y=>
  unfold Zet at h;split at h
  ·split at h
   ·exact Qk h
   ·cases h
  ·exact Qk h
 case un op x=>exact Qk h
 case eqA neg n x y=>
  unfold ZkJ at h;split at h
  ·obtain⟨r,_,h⟩:=Za h;exact ZR h
  ·cases h
 case convI k x=>unfold Go.Abs.convI at h;split at h<;>first | exact ZR h | cases h
 case convS x=>unfold Go.Abs.convS at h;split at h<;>first | exact ZR h | cases h
 case sliceS x lo hi=>exact Qk h
 case shift off x=>unfold YJ at h;split at h<;>first | exact ZR h | cases h
 case part g s off x=>exact Qk h
 case iaA len s x i=>
  obtain⟨n,_,h⟩:=Za h;unfold Zg6 at h;split at h
  ·unfold YJ at h;split at h<;>first | exact ZR h | cases h
  ·cases h
 case ixS x i=>
  obtain⟨n,_,h⟩:=Za h;unfold Znj at h;split at h
  ·unfold Zl3 at h;split at h
   ·obtain⟨b,_,h⟩:=Za h;exact ZR h
   ·cases h
  ·cases h
 case ixA g s len x i=>
  obtain⟨n,_,h⟩:=Za h;unfold ZpE at h;split at h
  ·exact Qk h
  ·cases h
 case nth i x=>unfold Zl4 at h;split at h<;>first | exact Qk h | cases h
 case lenS x=>obtain⟨n,_,h⟩:=Za h;exact ZR h
 case min x y=>unfold Zfn at h;split at h<;>first | (split at h<;>first | exact ZR h | cases h) | cases h
 case max x y=>unfold Zfo at h;split at h<;>first | (split at h<;>first | exact ZR h | cases h) | cases h
theorem Zfg {c:AV} (h:JG c=true):ZF g c=c:=by cases c<;>first | rfl | cases h
theorem Zak:∀ {cs:List AV},X7 cs=true→∀ c∈cs,JG c=true
 | [],_,c,hc=>by simp at hc
 | x :: l,h,c,hc=>by
  simp only[X7,Kb] at h;rcases Kf.1 hc with rfl | hc
  ·exact h.1
  ·exact Zak h.2 c hc
theorem Zen:∀ (slc:List (Option Nat)) (cs:List AV) (b:Nat),(∀ c∈(mat slc cs b).1,c∈cs∨∃ k o,c=.own k∧(k,o)∈(mat slc cs b).2)∧∀ k o,(k,o)∈(mat slc cs b).2→∃ sz,o=.row sz [] true false
 | [],cs,b=>by simp only[mat];exact⟨fun c hc=>.inl hc,fun k o h=>by simp at h⟩
 | t :: ts,[],b=>by cases t<;>(simp only[mat];exact⟨fun c hc=>.inl hc,fun k o h=>by simp at h⟩)
 | t :: ts,v :: vs,b=>by
  by_cases hv:(∃ sz,t=some sz)∧v=.nil
  ·obtain⟨⟨sz,rfl⟩,rfl⟩:=hv;obtain⟨h1,h2⟩:=Zen ts vs (b+1);simp only[mat];refine⟨fun c hc=>?_,fun k o h=>?_⟩
   ·rcases Kf.1 hc with rfl | hc
    ·exact .inr ⟨b,_,rfl,K9 ..⟩
    ·rcases h1 c hc with h | ⟨k,o,e,h⟩
     ·exact .inl (Kt _ h)
     ·exact .inr ⟨k,o,e,Kt _ h⟩
   ·rcases Kf.1 h with h | h
    ·cases h;exact⟨_,rfl⟩
    ·exact h2 k o h
  ·obtain⟨h1,h2⟩:=Zen ts vs b;have e:mat (t :: ts) (v :: vs) b=(v :: (mat ts vs b).1,(mat ts vs b).2):=by
    cases t with
    | none=>simp[mat]
    | some sz=>cases v<;>first | (exact absurd ⟨⟨sz,rfl⟩,rfl⟩ hv) | simp[mat]
   rw[e];refine⟨fun c hc=>?_,h2⟩;rcases Kf.1 hc with rfl | hc
   ·exact .inl (K9 ..)
   ·rcases h1 c hc with h | h
    ·exact .inl (Kt _ h)
    ·exact .inr h
theorem Zjt {base:Nat}:∀ {cs:List AV},X7 cs=true→cs.map (ZcM base)=cs
 | [],_=>rfl
 | c :: cs,h=>by
  simp only[X7,Kb] at h;rw[Kq,Zjt h.2];congr 1
  cases c<;>first | rfl | (simp[JG] at h)
theorem Zju:∀ {cs:List AV},X7 cs=true→QU cs=true
 | [],_=>rfl
 | c :: cs,h=>by
  simp only[X7,Kb] at h;have:=Zju h.2;cases c<;>first | exact this | (simp[JG] at h)
theorem Zfh {slc:List (Option Nat)} {cs:List AV} {ce:Zb} (hb:∀ k,base≤k→k<base+64→k∉g) (hc:X7 cs=true) (h:Zbm slc base cs=some ce) (ad:Qr base (base+64) ce.eff.adds=true) :
  (∀ id∈Zo ce.eff.val,id∉g)∧∀ k o,(k,o)∈ce.eff.adds→QF g o=o:=by
 have hr:=VL ad;unfold Zbm at h;rw[Zjt hc] at h;unfold Zg3 at h;rw[Kn (by rw[Zju hc];decide)] at h;split at h
 ·cases h;simp only at hr ⊢;obtain⟨h1,h2⟩:=Zen slc cs (base+1);refine⟨fun id aa=>?_,fun k o hm=>?_⟩
  ·simp[Zo,Zr,Zf] at aa;subst aa;exact hb _ (Kh _) (by omega)
  ·rcases Kf.1 hm with hm | hm
   ·cases hm;simp only[QF];congr 1
    rw[KJ (g:=id),Lw];intro c ab;rcases h1 c ab with h | ⟨k,o,rfl,h⟩
    ·exact Zfg (Zak hc c h)
    ·have:=hr k o (Kt _ h);have hk:=hb k this.1 this.2;simp[ZF,ZT,hk]
   ·obtain⟨sz,rfl⟩:=h2 k o hm;rfl
 ·cases h;simp only at hr ⊢;refine⟨fun id aa=>?_,fun k o hm=>?_⟩
  ·simp[Zo,Zr,Zf] at aa;subst aa;exact hb _ (Kh _) (by omega)
  ·simp at hm;obtain⟨rfl,rfl⟩:=hm;simp only[QF];congr 1
   rw[KJ (g:=id),Lw];exact fun c ab=>Zfg (Zak hc c ab)
theorem Zpp {c:COp} (hc:Zhl c=true) (he:∀ x∈Zt c,evO sl' x=evO sl x) (hs:∀ x∈Zt c,Zdg g hp hp' (evO sl x)) {ce:Zb}
  (hb:∀ k,base≤k→k<base+64→k∉g) (h:vop C M sl hp base c=some ce) (ab:Qr base (base+64) ce.eff.adds=true) (ad:ce.eff.frz=[]) (ho:okV ce.eff.val=true) (hk:kill g ce.eff.val=ce.eff.val):vop C M sl' hp' base c=some ce∧∀ k o,(k,o)∈ce.eff.adds→QF g o=o:=by
 rw[QA C M hp' base he];have aa:ce.eff.adds=[]→∀ k o,(k,o)∈ce.eff.adds→QF g o=o:=fun e k o hm=>by rw[e] at hm;simp at hm
 simp only[Zhl,Lg,Kb] at hc;rcases hc with ((hc | hc) | ⟨hc1,hc2⟩) | hc
 ·cases c<;>simp only[Wc,Ka] at hc<;>simp only[vop] at h ⊢ <;> simp only[Zt] at hs
  case load a s x=>exact⟨Zom h (Zpn (hs x (by simp)) (WZ h) ho hk),aa (Qk h)⟩
  case slice s x lo hi=>
   rw[Zba (hs x (by simp))];exact⟨h,aa (Qk h)⟩
  case slice0 x hi mx=>
   unfold slice0 at h ⊢;rw[JW (hs x (by simp))];exact⟨h,aa (Qk h)⟩
  case iaS s x i=>
   obtain⟨n,h1,h⟩:=Za h;rw[h1,Zc];unfold Zcv at h ⊢;rw[Uc (hs x (by simp))];refine⟨h,aa ?_⟩;split at h
   ·exact Qk h
   ·cases h
  case len x=>
   rw[JW (hs x (by simp))];refine⟨h,aa ?_⟩;obtain⟨n,_,h⟩:=Za h;exact ZR h
 ·cases c<;>simp only[ZjN,Ka] at hc
  simp only[vop] at h ⊢;obtain⟨h1,h2,h3⟩:=Zcp h ad hp';refine⟨h1,fun k o hm=>?_⟩;obtain⟨sz,xs,e,f,rfl⟩:=h3 k o hm;rfl
 ·rw[← Zdh (hp:=hp) hc1];exact⟨h,aa (Zne hc1 hc2 h)⟩
 ·cases c<;>simp only[Zgb,Ka] at hc
  simp only[vop] at h ⊢;exact⟨h,(Zfh hb hc h ab).2⟩
theorem Znf {c:COp} (hc:Zdz c=true) (he:∀ x∈Zt c,evO sl' x=evO sl x) (hs:∀ x∈Zt c,Zdg g hp hp' (evO sl x)) {ce:Zb}
  (hn:∀ x∈Zt c,∀ id∈Zo (evO sl x),id∉g) (hb:∀ k,base≤k→k<base+64→k∉g)
  (h:vop C M sl' hp' base c=some ce) (ad:Qr base (base+64) ce.eff.adds=true) (ae:ce.eff.frz=[]) (ho:okV ce.eff.val=true):vop C M sl hp base c=some ce∧kill g ce.eff.val=ce.eff.val∧∀ k o,(k,o)∈ce.eff.adds→QF g o=o:=by
 rw[QA C M hp' base he] at h;have aa:ce.eff.adds=[]→∀ k o,(k,o)∈ce.eff.adds→QF g o=o:=fun e k o hm=>by rw[e] at hm;simp at hm
 have names:(∀ id∈Zo ce.eff.val,id∉g)→kill g ce.eff.val=ce.eff.val:=Zol ho;cases c<;>simp only[Zdz,Ka] at hc<;>simp only[vop] at h ⊢ <;> simp only[Zt] at hs hn
 case alloc slc cs=>
  obtain⟨h1,h2⟩:=Zfh hb hc h ad;exact⟨h,names h1,h2⟩
 case buildSl s xs=>
  obtain⟨h1,h2,h3⟩:=Zcp h ae hp;refine⟨h1,names fun id ab=>?_,fun k o hm=>?_⟩
  ·rcases h2 with h2 | h2
   ·rw[h2] at ab;simp[Zo,Zr,Zf] at ab
   ·rw[h2] at ab;simp[Zo,Zr,Zf] at ab;subst ab;exact hb _ (Kh _) (by omega)
  ·obtain⟨sz,xs,e,f,rfl⟩:=h3 k o hm;rfl
 case load a s x=>
  obtain⟨h1,h2⟩:=Zpo (hs x (by simp)) (WZ h) ho;exact⟨Zom h h1,h2,aa (Qk h)⟩
 case nilCheck x=>
  have hx:=hn x (by simp);refine⟨h,names ?_,aa ?_⟩
  ·unfold WB at h;split at h<;>rename_i hv<;>first | (cases h;done) | (cases h;show ∀ id∈Zo _,_;rw[← hv];exact hx)
  ·unfold WB at h;split at h<;>first | exact ZR h | cases h
 case bin op eq x y=>
  have hd:∃ d,ce.eff.val=.d d:=by
   have o2:∀ {a b:AV},YA (vbin op a b)=some ce→∃ d,ce.eff.val=.d d:=fun {a b} h=>by
    have h1:=WZ h;unfold vbin at h1;split at h1
    ·unfold VX at h1;split at h1
     ·obtain⟨y,_,h1⟩:=Za h1;exact⟨_,(Option.some.inj h1).symm⟩
     ·obtain⟨y,_,h1⟩:=Za h1;exact⟨_,(Option.some.inj h1).symm⟩
     ·split at h1
      ·obtain⟨y,_,h1⟩:=Za h1;have:=Option.some.inj h1;exact⟨_,this.symm⟩
      ·cases h1
    ·obtain⟨y,_,h1⟩:=Za h1;have:=Option.some.inj h1;exact⟨_,this.symm⟩
    ·cases h1
   unfold Zet at h;split at h
   ·split at h
    ·have h1:=WZ h;unfold Zje at h1;split at h1
     ·exact⟨_,(Option.some.inj h1).symm⟩
     ·exact⟨_,(Option.some.inj h1).symm⟩
     ·cases h1
    ·cases h
   ·exact o2 h
  obtain⟨d,hd⟩:=hd;refine⟨h,by rw[hd];rfl,aa ?_⟩;unfold Zet at h;split at h
  ·split at h
   ·exact Qk h
   ·cases h
  ·exact Qk h
 case un op x=>
  have hd:∃ d,ce.eff.val=.d d:=by
   have h1:=WZ h;unfold vun at h1;split at h1
   ·unfold neg1 at h1;split at h1
    ·exact⟨_,(Option.some.inj h1).symm⟩
    ·cases h1
   ·unfold not1 at h1;split at h1
    ·exact⟨_,(Option.some.inj h1).symm⟩
    ·cases h1
   ·cases h1
  obtain⟨d,hd⟩:=hd;exact⟨h,by rw[hd];rfl,aa (Qk h)⟩
 case convI k x=>
  unfold Go.Abs.convI at h ⊢;split at h
  ·exact⟨h,by cases h;rfl,aa (ZR h)⟩
  ·cases h
 case shift off x=>
  have hx:=hn x (by simp);refine⟨h,names ?_,aa ?_⟩
  ·unfold YJ at h;split at h<;>rename_i hv<;>first | (cases h;done) | skip
   ·cases h;rw[hv] at hx;simpa [Zo,Zr,Zf] using hx
   ·cases h;rw[hv] at hx;simpa [Zo,Zr,Zf] using hx
   ·cases h;simp[Zo,Zr,Zf]
  ·unfold YJ at h;split at h<;>first | exact ZR h | cases h
 case slice s x lo hi=>
  have hx:=hn x (by simp);rw[Zba (hs x (by simp))] at h;refine⟨h,names ?_,aa (Qk h)⟩;have h1:=WZ h;cases hv:evO sl x<;>rw[hv] at h1 hx<;>simp only[Yl] at h1<;>first | (cases h1;done) | skip
  case d y=>
   cases y<;>simp only[Yl] at h1<;>first | (cases h1;done) | skip
   split at h1
   ·obtain⟨b,_,h1⟩:=Za h1;rw[← Option.some.inj h1];simp[Zo,Zr,Zf]
   ·cases h1
  case nil=>obtain⟨b,_,h1⟩:=Za h1;rw[← Option.some.inj h1];simp[Zo,Zr,Zf]
  case own id=>
   unfold UM at h1;split at h1
   ·split at h1
    ·unfold Zl1 at h1;split at h1
     ·rw[← Option.some.inj h1];exact hx
     ·obtain⟨b,_,h1⟩:=Za h1;rw[← Option.some.inj h1];simpa [Zo,Zr,Zf] using hx
    ·cases h1
   ·cases h1
  case ownv id off n=>
   unfold WA at h1;split at h1
   ·split at h1
    ·obtain⟨b,_,h1⟩:=Za h1;rw[← Option.some.inj h1];simpa [Zo,Zr,Zf] using hx
    ·cases h1
   ·cases h1
 case sliceS x lo hi=>
  have hd:∃ d,ce.eff.val=.d d:=by
   have h1:=WZ h;unfold sliceS at h1;split at h1
   ·obtain⟨b,_,h1⟩:=Za h1;exact⟨_,(Option.some.inj h1).symm⟩
   ·cases h1
  obtain⟨d,hd⟩:=hd;exact⟨h,by rw[hd];rfl,aa (Qk h)⟩
 case lenS x=>
  obtain⟨n,h1,h⟩:=Za h;refine⟨by rw[h1,Zc];exact h,by cases h;rfl,aa (ZR h)⟩
 case iaS s x i=>
  have hx:=hn x (by simp);obtain⟨n,h1,h⟩:=Za h;rw[h1,Zc];unfold Zcv at h ⊢;rw[Uc (hs x (by simp))] at h;refine⟨h,names ?_,aa ?_⟩
  ·split at h
   ·have h1:=WZ h;cases hv:evO sl x<;>rw[hv] at h1 hx<;>simp only[Qd] at h1<;>first | (cases h1;done) | skip
    case d y=>
     cases y<;>simp only[Qd] at h1<;>first | (cases h1;done) | skip
     obtain⟨b,_,h1⟩:=Za h1;unfold Zov at h1;split at h1
     ·rw[← Option.some.inj h1];simp[Zo,Zr,Zf]
     ·cases h1
    case own id=>
     unfold Jn at h1;split at h1
     ·split at h1
      ·rw[← Option.some.inj h1];simpa [Zo,Zr,Zf] using hx
      ·cases h1
     ·split at h1
      ·rw[← Option.some.inj h1];simpa [Zo,Zr,Zf] using hx
      ·cases h1
     ·cases h1
    case ownv id off n=>
     unfold UL at h1;split at h1
     ·split at h1
      ·rw[← Option.some.inj h1];simpa [Zo,Zr,Zf] using hx
      ·cases h1
     ·cases h1
   ·cases h
  ·split at h
   ·exact Qk h
   ·cases h
 case len x=>
  rw[JW (hs x (by simp))] at h;obtain⟨n,h1,h2⟩:=Za h;exact⟨h,by cases h2;rfl,aa (ZR h2)⟩
end
end Go.Abs
