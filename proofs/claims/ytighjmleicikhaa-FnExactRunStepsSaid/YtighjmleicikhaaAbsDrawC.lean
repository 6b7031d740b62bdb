/- Own text. -/
import Derived.Test.YtighjmleicikhaaAbsDraw3
import Derived.Test.YtighjmleicikhaaAbsSound5
set_option linter.unusedVariables false
set_option linter.unusedSimpArgs false
namespace Go.Abs
open Go
theorem ZnO {v:AV} (h:okC v=true):okV v=true:=by
 cases v<;>first | exact h | cases h
theorem Zen {g:List Nat} {v:AV} (h:okC (ZM g v)=true):ZM g v=v:=by
 cases v<;>simp only[ZM] at h ⊢ <;> first | rfl | (split at h<;>rename_i h' <;> first | (cases h;done) | rw[Kp h'])
theorem ZcR {g:List Nat}:∀ {cs:List AV},Zkx (cs.map (ZM g))=true→cs.map (ZM g)=cs
 | [],_=>rfl
 | c :: cs,h=>by
  simp only[Kq,Zkx,Kb] at h ⊢;rw[Zen h.1,ZcR h.2]
theorem JG {g:List Nat} {v:AV} (h:okV (Zz g v)=true):Zz g v=v:=by
 cases v with
 | agg cs=>simp only[Zz,okV] at h ⊢;rw[ZcR h]
 | clo f cs=>simp only[Zz,okV,okC] at h;cases h
 | tup vs=>rfl
 | _=>
  simp only[Zz] at h ⊢;refine Zen ?_;revert h;simp only[ZM]
  first | exact id | (split<;>first | exact id | (intro h;cases h))
theorem Uu {g:List Nat} {v:AV} (h:okV (kill g v)=true):kill g v=v:=by
 cases v with
 | tup vs=>
  cases vs with
  | nil=>rfl
  | cons x r=>simp only[kill,Kq,okV,okC] at h;cases h
 | _=>simp only[kill] at h ⊢;exact JG h
theorem Zlz {g:List Nat} {v:AV} (hn:∀ id∈Zf v,id∉g):ZM g v=v:=by
 cases v<;>simp only[ZM]<;>first | rfl | (rw[Kp];simpa [Zf] using hn)
theorem ZnP {g:List Nat} {v:AV} (h:okV v=true) (hn:∀ id∈Zm v,id∉g):kill g v=v:=by
 cases v with
 | tup vs=>
  cases vs with
  | nil=>rfl
  | cons x r=>simp only[okV,okC] at h;cases h
 | clo f cs=>simp only[okV,okC] at h;cases h
 | agg cs=>
  simp only[kill,Zz];congr 1
  rw[Kv (g:=id),Ld];intro c hc;exact Zlz fun id aa=>hn id (by simp only[Zm,Zo,Kl];exact⟨c,hc,aa⟩)
 | _=>simp only[kill,Zz];exact Zlz hn
theorem Zqa {g:List Nat} {v:AV} (h:kill g v=v):∀ id∈Zm v,id∉g:=fun id aa=>(Ziz g v id (by rw[h];exact aa)).2
theorem ZoL {g:List Nat} {c:AV} (h:okC c=true) (h1:ZM g c=c):Zz g c=c:=by
 cases c<;>simp only[Zz]<;>first | exact h1 | cases h
def Uv (g:List Nat):Option Zh→Option Zh→Prop
 | none,none=>True
 | some (.row s xs _ _),some (.row s' xs' _ _)=>s'=s∧xs'=xs
 | some (.box cs),some (.box cs')=>cs'=cs.map (Zz g)
 | some (.tree s n xs l),some (.tree s' n' xs' l')=>s'=s∧n'=n∧xs'=xs∧l'=Yp g l
 | some .gone,some .gone=>True
 | _,_=>False
theorem ZlA {g:List Nat} {b:Bool} (o:Option Zh):Uv g o ((o.map (QJ g)).map fun o=>if b then XL o else o):=by
 cases o with
 | none=>trivial
 | some o=>cases o<;>cases b<;>exact(by first | exact⟨rfl,rfl⟩ | exact rfl | exact⟨rfl,rfl,rfl,rfl⟩ | exact trivial)
theorem ZiK {g:List Nat}:∀ {l:List AV} {ds:List D},J6 l=some ds→l.map (Zz g)=l
 | [],ds,_=>rfl
 | v :: l,ds,h=>by
  simp only[J6] at h;obtain⟨x,h1,h⟩:=Za h;obtain⟨aa,h2,h⟩:=Za h;have:Zz g v=v:=by cases v<;>first | rfl | cases h1
  rw[Kq,this,ZiK h2]
theorem ZgT {g:List Nat}:∀ {l:List AV} {ds:List D},J6 (l.map (Zz g))=some ds→l.map (Zz g)=l
 | [],ds,_=>rfl
 | v :: l,ds,h=>by
  simp only[Kq,J6] at h;obtain⟨x,h1,h⟩:=Za h;obtain⟨aa,h2,h⟩:=Za h;have hv:Zz g v=v:=by
   refine JG ?_;cases hk:Zz g v<;>rw[hk] at h1<;>first | rfl | cases h1
  rw[Kq,hv,ZgT h2]
theorem Za6 (l:List AV):(∃ ds,J6 l=some ds∧VG l=.d (.agg ds))∨(J6 l=none∧(VG l=.junk∨VG l=.agg l)):=by
 unfold VG;cases h:J6 l with
 | some ds=>exact .inl ⟨ds,rfl,rfl⟩
 | none=>
  refine .inr ⟨rfl,?_⟩;unfold Va;split
  ·rename_i h;cases h
  ·split
   ·exact .inl rfl
   ·exact .inr rfl
theorem Zds:∀ {l:List AV},Zkx l=true→∀ c∈l,okC c=true
 | [],_,c,hc=>by simp at hc
 | x :: l,h,c,hc=>by
  simp only[Zkx,Kb] at h;rcases Ke.1 hc with rfl | hc
  ·exact h.1
  ·exact Zds h.2 c hc
theorem ZoM {g:List Nat} {l:List AV} (h:okV (VG l)=true) (hk:kill g (VG l)=VG l):l.map (Zz g)=l:=by
 rcases Za6 l with ⟨ds,h1,h2⟩ | ⟨h1,h2 | h2⟩
 ·exact ZiK h1
 ·rw[h2] at h;cases h
 ·rw[h2] at h hk;simp only[kill,Zz,AV.agg.injEq] at hk;simp only[okV] at h;have hm:=Zds h;have aa : ∀ c∈l,ZM g c=c:=by
   intro c hc;have:=ZcR (g:=g) (cs:=l) (by rw[hk];exact h);exact Zen (by
    have h3:ZM g c∈l.map (ZM g):=List.mem_map_of_mem hc;rw[hk] at h3;exact hm _ h3)
  rw[Kv (g:=id),Ld];intro c hc;exact ZoL (hm c hc) (aa c hc)
theorem ZoN {g:List Nat} {l:List AV} (h:okV (VG (l.map (Zz g)))=true):l.map (Zz g)=l:=by
 rcases Za6 (l.map (Zz g)) with ⟨ds,h1,h2⟩ | ⟨h1,h2 | h2⟩
 ·exact ZgT h1
 ·rw[h2] at h;cases h
 ·rw[h2] at h;simp only[okV] at h;have hm:=Zds h;rw[Kv (g:=id),Ld];intro c hc;exact JG (ZnO (hm _ (List.mem_map_of_mem hc)))
theorem ZmP {g:List Nat} {v:AV} (h:okV v=true) (hk:kill g v=v):Zz g v=v:=by
 cases v with
 | tup vs=>rfl
 | _=>simp only[kill] at hk;exact hk
theorem ZmQ {g:List Nat} {v:AV} (h:okV v=true) (hk:Zz g v=v):kill g v=v:=by
 cases v with
 | tup vs=>
  cases vs with
  | nil=>rfl
  | cons x r=>simp only[okV,okC] at h;cases h
 | _=>simp only[kill];exact hk
theorem Zci {α β:Type} (f:α→β) (l:List α) (a b:Nat):((l.map f).drop a).take b=((l.drop a).take b).map f:=by
 rw[← List.map_drop,← List.map_take]
theorem Ze2 (g:List Nat) (c:AV):Zdx (Zz g c)=Zz g (Zdx c):=by
 have aa:∀ v:AV,(∀ a b,v≠.bbuf a b)→Zdx v=v:=fun v h'=>by cases v<;>first | rfl | exact absurd rfl (h' _ _)
 by_cases h' : ∃ a b,c=.bbuf a b
 ·obtain⟨a,b,rfl⟩:=h';rfl
 ·have h2:∀ a b,c≠.bbuf a b:=fun a b e=>h' ⟨a,b,e⟩;rw[aa c h2,aa];exact fun a b e=>h2 a b ((Vl g c a b).1 e)
theorem ZlB {g:List Nat} {cs:List AV} {a:Bool} {s off:Nat} {v:AV} (h:Wu a s off (some (.box cs))=some v) (ho:okV v=true) (hk:kill g v=v):Wu a s off (some (.box (cs.map (Zz g))))=some v:=by
 unfold Wu at h ⊢;cases a with
 | true=>
  simp only[Kh] at h ⊢;split at h
  ·rename_i hl;cases h;rw[Ku (by simpa using hl),Zci,ZoM ho hk]
  ·cases h
 | false=>
  simp only[Ka,Kg] at h ⊢;obtain⟨c,hc,rfl⟩:=Option.map_eq_some_iff.1 h;rw[Lh,hc];simp only[KO];rw[Ze2,ZmP ho hk]
theorem ZlC {g:List Nat} {cs:List AV} {a:Bool} {s off:Nat} {v:AV} (h:Wu a s off (some (.box (cs.map (Zz g))))=some v) (ho:okV v=true):Wu a s off (some (.box cs))=some v∧kill g v=v:=by
 unfold Wu at h ⊢;cases a with
 | true=>
  simp only[Kh] at h ⊢;split at h
  ·rename_i hl;cases h;rw[Zci] at ho ⊢;have he:=ZoN ho;rw[he] at ho ⊢;refine⟨by rw[Ku (by simpa using hl)],?_⟩;rcases Za6 ((cs.drop off).take s) with ⟨ds,h1,h2⟩ | ⟨h1,h2 | h2⟩
   ·rw[h2];rfl
   ·rw[h2] at ho;cases ho
   ·rw[h2] at ho ⊢;simp only[okV] at ho;have hm:=Zds ho;simp only[kill,Zz,AV.agg.injEq];rw[Kv (g:=id),Ld];intro c hc;have h3:Zz g c=c:=by
     refine JG ?_;have h4:Zz g c∈((cs.drop off).take s).map (Zz g):=List.mem_map_of_mem hc;rw[he] at h4;exact ZnO (hm _ h4)
    have:=hm c hc;cases c<;>first | exact h3 | cases this
  ·cases h
 | false=>
  simp only[Ka,Kg] at h ⊢;rw[Lh] at h;cases hc:cs[off]? with
  | none=>rw[hc] at h;cases h
  | some c=>
   rw[hc] at h;simp only[KO,Option.some.injEq] at h;rw[Ze2] at h;have h3:Zz g (Zdx c)=Zdx c:=JG (by rw[h];exact ho);rw[h3] at h;subst h;exact⟨rfl,ZmQ ho h3⟩
theorem ZmR {g:List Nat} {o o' : Option Zh} (h:Uv g o o'):YH o'=YH o:=by
 cases o with
 | none=>cases o' with
  | none=>rfl
  | some o'=>cases h
 | some o=>cases o' with
  | none=>cases o<;>cases h
  | some o' =>
   have tr:∀ s n xs l,YH (some (.tree s n xs (Yp g l)))=YH (some (.tree s n xs l)):=by
    intro s n xs l;rcases l with _ | ⟨_ | nm,_⟩
    ·rfl
    ·rfl
    ·simp only[Yp];split<;>rfl
   cases o<;>cases o' <;> simp only[Uv] at h<;>first | (cases h;done) | rfl | (obtain⟨rfl,rfl⟩:=h;rfl) | (obtain⟨rfl,rfl,rfl,rfl⟩:=h;exact tr _ _ _ _)
theorem Uw {g:List Nat} {o o' : Option Zh} (h:Uv g o o'):(∃ s xs e f e' f',o=some (.row s xs e f)∧o'=some (.row s xs e' f'))∨(o=none∧o'=none)∨(∃ cs,o=some (.box cs)∧o'=some (.box (cs.map (Zz g))))∨(o=some .gone∧o'=some .gone)∨(∃ s n xs l,o=some (.tree s n xs l)∧o'=some (.tree s n xs (Yp g l))):=by
 cases o with
 | none=>cases o' with
  | none=>exact .inr (.inl ⟨rfl,rfl⟩)
  | some o'=>cases h
 | some o=>cases o' with
  | none=>cases o<;>cases h
  | some o' =>
   cases o with
   | box cs=>cases o' with
    | box cs'=>simp only[Uv] at h;subst h;exact .inr (.inr (.inl ⟨cs,rfl,rfl⟩))
    | row _ _ _ _=>cases h
    | gone=>cases h
    | tree _ _ _ _=>cases h
   | row s xs e f=>cases o' with
    | box cs'=>cases h
    | row s' xs' e' f'=>simp only[Uv] at h;obtain⟨rfl,rfl⟩:=h;exact .inl ⟨_,_,_,_,_,_,rfl,rfl⟩
    | gone=>cases h
    | tree _ _ _ _=>cases h
   | gone=>cases o' with
    | box cs'=>cases h
    | row _ _ _ _=>cases h
    | gone=>exact .inr (.inr (.inr (.inl ⟨rfl,rfl⟩)))
    | tree _ _ _ _=>cases h
   | tree s n xs l=>cases o' with
    | box cs'=>cases h
    | row _ _ _ _=>cases h
    | gone=>cases h
    | tree s' n' xs' l'=>simp only[Uv] at h;obtain⟨rfl,rfl,rfl,rfl⟩:=h;exact .inr (.inr (.inr (.inr ⟨_,_,_,_,rfl,rfl⟩)))
section
variable {g:List Nat} {o o' : Option Zh}
theorem Zj8 (h:Uv g o o') (sz id n:Nat):U4 sz id n o'=U4 sz id n o:=by
 rcases Uw h with ⟨s,xs,e,f,e',f',rfl,rfl⟩ | ⟨rfl,rfl⟩ | ⟨cs,rfl,rfl⟩ | ⟨rfl,rfl⟩ | ⟨s,n,xs,l,rfl,rfl⟩<;>rfl
theorem Zij (h:Uv g o o') (sz id off m n:Nat):UC sz id off m n o'=UC sz id off m n o:=by
 rcases Uw h with ⟨s,xs,e,f,e',f',rfl,rfl⟩ | ⟨rfl,rfl⟩ | ⟨cs,rfl,rfl⟩ | ⟨rfl,rfl⟩ | ⟨s,n,xs,l,rfl,rfl⟩<;>rfl
theorem Zik (h:Uv g o o') (s id:Nat) (lo hi:Option AV):UD s id lo hi o'=UD s id lo hi o:=by
 rcases Uw h with ⟨s,xs,e,f,e',f',rfl,rfl⟩ | ⟨rfl,rfl⟩ | ⟨cs,rfl,rfl⟩ | ⟨rfl,rfl⟩ | ⟨s,n,xs,l,rfl,rfl⟩<;>rfl
theorem ZgU (h:Uv g o o') (s id off n:Nat) (lo hi:Option AV):We s id off n lo hi o'=We s id off n lo hi o:=by
 rcases Uw h with ⟨s,xs,e,f,e',f',rfl,rfl⟩ | ⟨rfl,rfl⟩ | ⟨cs,rfl,rfl⟩ | ⟨rfl,rfl⟩ | ⟨s,n,xs,l,rfl,rfl⟩<;>rfl
theorem Zj9 {i off:Nat} {l:Option (Option Nat×Nat×Nat)} {x:D} {v:AV} (h:VM i off l x=some v) (hk:kill g v=v):VM i off (Yp g l) x=some v:=by
 unfold VM at h ⊢;split at h
 ·unfold Zfa at h;split at h
  ·rename_i nm i' c;split at h
   ·rename_i hc;cases h;have:g.contains nm=false:=by
     cases hg:g.contains nm with
     | false=>rfl
     | true=>simp only[kill,Zz,ZM,hg,Kh] at hk;cases hk
    simp only[Yp,this,Ka,Kg,Zfa,hc,and_self,Kh]
   ·cases h
  ·cases h
 ·exact h
 ·cases h
theorem Zka {i off:Nat} {l:Option (Option Nat×Nat×Nat)} {x:D} {v:AV} (h:VM i off (Yp g l) x=some v):VM i off l x=some v∧kill g v=v:=by
 unfold VM at h ⊢;split at h
 ·unfold Zfa at h;split at h
  ·rename_i nm i' c hl;split at h
   ·rename_i hc;cases h;unfold Yp at hl;split at hl
    ·rename_i ab q;split at hl
     ·cases hl
     ·rename_i hg;cases hl;simp only[Bool.not_eq_true] at hg;exact⟨by simp only[Zfa,hc,and_self,Kh],by simp only[kill,Zz,ZM,hg,Ka,Kg]⟩
    ·rename_i aa;subst hl;exact absurd rfl (aa _ _)
   ·cases h
  ·cases h
 ·split at h
  ·rename_i hp;cases h;exact⟨by rw[Ku hp],rfl⟩
  ·cases h
 ·cases h
theorem Zdt {id:Nat} (h:Uv g o o') {a:Bool} {s sz i off:Nat} {v:AV}:(VN id a s sz i off o=some v→kill g v=v→VN id a s sz i off o'=some v)∧(VN id a s sz i off o'=some v→VN id a s sz i off o=some v∧kill g v=v):=by
 have aa:∀ {cs:List D},UA a s off cs=some v→∃ d,v=.d d:=by
  intro cs h;unfold UA at h;split at h
  ·split at h
   ·cases h;exact⟨_,rfl⟩
   ·cases h
  ·unfold asD at h;obtain⟨y,_,h⟩:=Za h;cases h;exact⟨_,rfl⟩
 rcases Uw h with ⟨s,xs,e,f,e',f',rfl,rfl⟩ | ⟨rfl,rfl⟩ | ⟨cs,rfl,rfl⟩ | ⟨rfl,rfl⟩ | ⟨s,n,xs,l,rfl,rfl⟩
 ·refine⟨fun h _=>h,fun h=>⟨h,?_⟩⟩;simp only[VN] at h;split at h
  ·obtain⟨x,_,h⟩:=Za h;unfold Zdy at h;split at h
   ·obtain⟨d,rfl⟩:=aa h;rfl
   ·cases h
  ·cases h
 ·exact⟨fun h _=>(by cases h),fun h=>(by cases h)⟩
 ·exact⟨fun h _=>(by cases h),fun h=>(by cases h)⟩
 ·exact⟨fun h _=>(by cases h),fun h=>(by cases h)⟩
 ·simp only[VN];split
  ·split
   ·exact⟨fun h _=>(by cases h),fun h=>(by cases h)⟩
   ·constructor
    ·intro hh hk;obtain⟨x,h1,hh⟩:=Za hh;rw[h1,Zc];exact Zj9 hh hk
    ·intro hh;obtain⟨x,h1,hh⟩:=Za hh;rw[h1,Zc];exact Zka hh
  ·exact⟨fun h _=>(by cases h),fun h=>(by cases h)⟩
end
section
variable {hp hp' : Hp} {g:List Nat}
def Zdu (g:List Nat) (hp hp' : Hp) (v:AV):Prop:=∀ k∈Zm v,Uv g (lkp hp k) (lkp hp' k)
theorem JH {v:AV} (h:Zdu g hp hp' v):Jl hp' v=Jl hp v:=by
 cases v<;>simp only[Jl]
 case d x=>cases x<;>rfl
 case own id=>rw[ZmR (h id (by simp[Zm,Zo,Zf]))]
theorem WP {v:AV} (h:Zdu g hp hp' v) (sz n:Nat):Z9 hp' sz n v=Z9 hp sz n v:=by
 cases v<;>simp only[Z9]
 case d x=>cases x<;>rfl
 case own id=>rw[Zj8 (h id (by simp[Zm,Zo,Zf]))]
 case ownv id off n=>rw[Zij (h id (by simp[Zm,Zo,Zf]))]
theorem Za7 {v:AV} (h:Zdu g hp hp' v) (s:Nat) (lo hi:Option AV):X1 hp' s lo hi v=X1 hp s lo hi v:=by
 cases v<;>simp only[X1]
 case d x=>cases x<;>rfl
 case own id=>rw[Zik (h id (by simp[Zm,Zo,Zf]))]
 case ownv id off n=>rw[ZgU (h id (by simp[Zm,Zo,Zf]))]
theorem ZoO {x v:AV} (hs:Zdu g hp hp' x) {a:Bool} {s:Nat} (h:Y7 hp a s x=some v) (ho:okV v=true) (hk:kill g v=v):Y7 hp' a s x=some v:=by
 cases x<;>simp only[Y7] at h ⊢ <;> first | (cases h;done) | skip
 case ptr id off=>
  rcases Uw (hs id (by simp[Zm,Zo,Zf])) with ⟨_,_,_,_,_,_,e1,e2⟩ | ⟨e1,e2⟩ | ⟨cs,e1,e2⟩ | ⟨e1,e2⟩ | ⟨_,_,_,_,e1,e2⟩
  ·rw[e1] at h;cases h
  ·rw[e1] at h;cases h
  ·rw[e1] at h;rw[e2];exact ZlB h ho hk
  ·rw[e1] at h;cases h
  ·rw[e1] at h;cases h
 case prow id sz i off=>exact(Zdt (hs id (by simp[Zm,Zo,Zf]))).1 h hk
 case pim cs=>exact h
theorem Zqb {a:Bool} {s off:Nat} {cs:List D} {v:AV} (h:UA a s off cs=some v):∃ d,v=.d d:=by
 unfold UA at h;split at h
 ·split at h
  ·cases h;exact⟨_,rfl⟩
  ·cases h
 ·unfold asD at h;obtain⟨y,_,h⟩:=Za h;cases h;exact⟨_,rfl⟩
theorem ZoP {x v:AV} (hs:Zdu g hp hp' x) {a:Bool} {s:Nat} (h:Y7 hp' a s x=some v) (ho:okV v=true):Y7 hp a s x=some v∧kill g v=v:=by
 cases x<;>simp only[Y7] at h ⊢ <;> first | (cases h;done) | skip
 case ptr id off=>
  rcases Uw (hs id (by simp[Zm,Zo,Zf])) with ⟨_,_,_,_,_,_,e1,e2⟩ | ⟨e1,e2⟩ | ⟨cs,e1,e2⟩ | ⟨e1,e2⟩ | ⟨_,_,_,_,e1,e2⟩
  ·rw[e2] at h;cases h
  ·rw[e2] at h;cases h
  ·rw[e2] at h;rw[e1];exact ZlC h ho
  ·rw[e2] at h;cases h
  ·rw[e2] at h;cases h
 case prow id sz i off=>
  exact(Zdt (hs id (by simp[Zm,Zo,Zf]))).2 h
 case pim cs=>
  obtain⟨d,rfl⟩:=Zqb h;exact⟨h,rfl⟩
theorem Ze3 {x:AV} {d:D} {e:Bool} (h:WV hp x=some (d,e,[])) (hp' : Hp):WV hp' x=some (d,e,[]):=by
 cases x<;>simp only[WV] at h ⊢ <;> first | exact h | skip
 case own id=>obtain⟨q,_,h⟩:=Za h;simp at h
theorem Ze4:∀ {xs:List AV} {d:List D} {e:Bool},X6 hp xs=some (d,e,[])→∀ hp' : Hp,X6 hp' xs=some (d,e,[])
 | [],d,e,h,hp'=>h
 | x :: xs,d,e,h,hp'=>by
  simp only[X6] at h ⊢;obtain⟨⟨d1,e1,l1⟩,h1,h⟩:=Za h;obtain⟨⟨d2,e2,l2⟩,h2,h⟩:=Za h;have hl:l1=[]∧l2=[]:=by
   simp only at h;split at h
   ·simp only[Option.some.injEq,Prod.mk.injEq,List.append_eq_nil_iff] at h;exact h.2.2
   ·cases h
  obtain⟨rfl,rfl⟩:=hl;rw[Ze3 h1 hp',Zc,Ze4 h2 hp',Zc];exact h
theorem ZmS {x:AV} {d:D} {e:Bool} (h:give hp x=some (d,e,[])) (hp' : Hp):give hp' x=some (d,e,[]):=by
 cases x<;>simp only[give] at h ⊢ <;> first | exact Ze3 h hp' | skip
 case agg cs=>
  obtain⟨⟨d1,e1,l1⟩,h1,h⟩:=Za h;simp only[Option.some.injEq,Prod.mk.injEq] at h;obtain⟨rfl,rfl,rfl⟩:=h;rw[Ze4 h1 hp',Zc]
theorem Zcj:∀ {xs:List AV} {d:List D} {e:Bool},YI hp xs=some (d,e,[])→∀ hp' : Hp,YI hp' xs=some (d,e,[])
 | [],d,e,h,hp'=>h
 | x :: xs,d,e,h,hp'=>by
  simp only[YI] at h ⊢;obtain⟨⟨d1,e1,l1⟩,h1,h⟩:=Za h;obtain⟨⟨d2,e2,l2⟩,h2,h⟩:=Za h;have hl:l1=[]∧l2=[]:=by
   simp only at h;split at h
   ·simp only[Option.some.injEq,Prod.mk.injEq,List.append_eq_nil_iff] at h;exact h.2.2
   ·cases h
  obtain⟨rfl,rfl⟩:=hl;rw[ZmS h1 hp',Zc,Zcj h2 hp',Zc];exact h
theorem Zck {base s:Nat} {vs:List AV} {ce:Zb} (h:buildSl hp base s vs=some ce) (hf:ce.eff.frz=[]) (hp' : Hp) :
  buildSl hp' base s vs=some ce∧(ce.eff.val=.nil∨ce.eff.val=.own base)∧(∀ k o,(k,o)∈ce.eff.adds→∃ sz xs e f,o=.row sz xs e f):=by
 cases vs with
 | nil=>simp only[buildSl,Qo] at h ⊢;cases h;exact⟨rfl,.inl rfl,fun k o h=>by simp at h⟩
 | cons v vs=>
  simp only[buildSl] at h ⊢;obtain⟨⟨ds,e,l⟩,h1,h⟩:=Za h;unfold Zo4 at h;split at h
  ·rename_i hc;cases h;simp only at hf;subst hf;rw[Zcj h1 hp',Zc];refine⟨?_,.inr rfl,fun k o ho=>?_⟩
   ·unfold Zo4;rw[Ku hc]
   ·simp at ho;obtain⟨rfl,rfl⟩:=ho;exact⟨_,_,_,_,rfl⟩
  ·cases h
end
theorem Zdv {C:Orc} {M:Zg} {sl:Sl} {hp hp' : Hp} {base:Nat} {c:COp} (hc:Yy c=true):vop C M sl hp base c=vop C M sl hp' base c:=by
 cases c<;>first | rfl | (simp[Yy] at hc)
section
variable {C:Orc} {M:Zg} {sl sl' : Sl} {hp hp' : Hp} {base:Nat} {g:List Nat}
theorem ZL {v:AV} {ce:Zb} (h:Qo v=some ce):ce.eff.adds=[]:=by cases h;rfl
theorem Qm {v:Option AV} {ce:Zb} (h:X2 v=some ce):ce.eff.adds=[]:=by obtain⟨v,_,h⟩:=Za h;exact ZL h
theorem WH {v:Option AV} {ce:Zb} (h:X2 v=some ce):v=some ce.eff.val:=by obtain⟨v,rfl,h⟩:=Za h;cases h;rfl
theorem ZnQ {v:Option AV} {ce:Zb} {w:Option AV} (h:X2 v=some ce) (hw:w=some ce.eff.val):X2 w=some ce:=by
 obtain⟨v,rfl,h⟩:=Za h;cases h;rw[hw];rfl
theorem ZmT {c:COp} (hc:Yy c=true) (hv:Znc c=true) {ce:Zb} (h:vop C M sl hp base c=some ce):ce.eff.adds=[]:=by
 cases c<;>simp only[Yy,Znc,Ka] at hc hv<;>simp only[vop] at h
 case stuck=>cases h
 case move x=>exact ZL h
 case pick c a b=>
  unfold Zbj at h;split at h
  ·split at h<;>exact ZL h
  ·cases h
 case build zs ps=>obtain⟨cs,_,h⟩:=Za h;exact ZL h
 case nilCheck x=>unfold Wf at h;split at h<;>first | exact ZL h | cases h
 case bin op eq x y=>
  unfold Zg9 at h;split at h
  ·split at h
   ·exact Qm h
   ·cases h
  ·exact Qm h
 case un op x=>exact Qm h
 case eqA neg n x y=>
  unfold Zkl at h;split at h
  ·obtain⟨r,_,h⟩:=Za h;exact ZL h
  ·cases h
 case convI k x=>unfold Go.Abs.convI at h;split at h<;>first | exact ZL h | cases h
 case convS x=>unfold Go.Abs.convS at h;split at h<;>first | exact ZL h | cases h
 case sliceS x lo hi=>exact Qm h
 case shift off x=>unfold Yx at h;split at h<;>first | exact ZL h | cases h
 case part g s off x=>exact Qm h
 case iaA len s x i=>
  obtain⟨n,_,h⟩:=Za h;unfold Zhb at h;split at h
  ·unfold Yx at h;split at h<;>first | exact ZL h | cases h
  ·cases h
 case ixS x i=>
  obtain⟨n,_,h⟩:=Za h;unfold Zm1 at h;split at h
  ·unfold ZlO at h;split at h
   ·obtain⟨b,_,h⟩:=Za h;exact ZL h
   ·cases h
  ·cases h
 case ixA g s len x i=>
  obtain⟨n,_,h⟩:=Za h;unfold Zo5 at h;split at h
  ·exact Qm h
  ·cases h
 case nth i x=>unfold ZlP at h;split at h<;>first | exact Qm h | cases h
 case lenS x=>obtain⟨n,_,h⟩:=Za h;exact ZL h
 case min x y=>unfold Zfb at h;split at h<;>first | (split at h<;>first | exact ZL h | cases h) | cases h
 case max x y=>unfold Zfc at h;split at h<;>first | (split at h<;>first | exact ZL h | cases h) | cases h
theorem Ze5 {c:AV} (h:Jt c=true):Zz g c=c:=by cases c<;>first | rfl | cases h
theorem Zad:∀ {cs:List AV},XS cs=true→∀ c∈cs,Jt c=true
 | [],_,c,hc=>by simp at hc
 | x :: l,h,c,hc=>by
  simp only[XS,Kb] at h;rcases Ke.1 hc with rfl | hc
  ·exact h.1
  ·exact Zad h.2 c hc
theorem Zeo:∀ (slc:List (Option Nat)) (cs:List AV) (b:Nat),(∀ c∈(mat slc cs b).1,c∈cs∨∃ k o,c=.own k∧(k,o)∈(mat slc cs b).2)∧∀ k o,(k,o)∈(mat slc cs b).2→∃ sz,o=.row sz [] true false
 | [],cs,b=>by simp only[mat];exact⟨fun c hc=>.inl hc,fun k o h=>by simp at h⟩
 | t :: ts,[],b=>by cases t<;>(simp only[mat];exact⟨fun c hc=>.inl hc,fun k o h=>by simp at h⟩)
 | t :: ts,v :: vs,b=>by
  by_cases hv:(∃ sz,t=some sz)∧v=.nil
  ·obtain⟨⟨sz,rfl⟩,rfl⟩:=hv;obtain⟨h1,h2⟩:=Zeo ts vs (b+1);simp only[mat];refine⟨fun c hc=>?_,fun k o h=>?_⟩
   ·rcases Ke.1 hc with rfl | hc
    ·exact .inr ⟨b,_,rfl,KW ..⟩
    ·rcases h1 c hc with h | ⟨k,o,e,h⟩
     ·exact .inl (Ko _ h)
     ·exact .inr ⟨k,o,e,Ko _ h⟩
   ·rcases Ke.1 h with h | h
    ·cases h;exact⟨_,rfl⟩
    ·exact h2 k o h
  ·obtain⟨h1,h2⟩:=Zeo ts vs b;have e:mat (t :: ts) (v :: vs) b=(v :: (mat ts vs b).1,(mat ts vs b).2):=by
    cases t with
    | none=>simp[mat]
    | some sz=>cases v<;>first | (exact absurd ⟨⟨sz,rfl⟩,rfl⟩ hv) | simp[mat]
   rw[e];refine⟨fun c hc=>?_,h2⟩;rcases Ke.1 hc with rfl | hc
   ·exact .inl (KW ..)
   ·rcases h1 c hc with h | h
    ·exact .inl (Ko _ h)
    ·exact .inr h
theorem ZiL {base:Nat}:∀ {cs:List AV},XS cs=true→cs.map (Zb5 base)=cs
 | [],_=>rfl
 | c :: cs,h=>by
  simp only[XS,Kb] at h;rw[Kq,ZiL h.2];congr 1
  cases c<;>first | rfl | (simp[Jt] at h)
theorem ZiM:∀ {cs:List AV},XS cs=true→QP cs=true
 | [],_=>rfl
 | c :: cs,h=>by
  simp only[XS,Kb] at h;have:=ZiM h.2;cases c<;>first | exact this | (simp[Jt] at h)
theorem Ze6 {slc:List (Option Nat)} {cs:List AV} {ce:Zb} (hb:∀ k,base≤k→k<base+64→k∉g) (hc:XS cs=true) (h:Zbk slc base cs=some ce) (ad:Qu base (base+64) ce.eff.adds=true) :
  (∀ id∈Zm ce.eff.val,id∉g)∧∀ k o,(k,o)∈ce.eff.adds→QJ g o=o:=by
 have hr:=Vv ad;unfold Zbk at h;rw[ZiL hc] at h;unfold Zg7 at h;rw[Kp (by rw[ZiM hc];decide)] at h;split at h
 ·cases h;simp only at hr ⊢;obtain⟨h1,h2⟩:=Zeo slc cs (base+1);refine⟨fun id aa=>?_,fun k o hm=>?_⟩
  ·simp[Zm,Zo,Zf] at aa;subst aa;exact hb _ (Kf _) (by omega)
  ·rcases Ke.1 hm with hm | hm
   ·cases hm;simp only[QJ];congr 1
    rw[Kv (g:=id),Ld];intro c ab;rcases h1 c ab with h | ⟨k,o,rfl,h⟩
    ·exact Ze5 (Zad hc c h)
    ·have:=hr k o (Ko _ h);have hk:=hb k this.1 this.2;simp[Zz,ZM,hk]
   ·obtain⟨sz,rfl⟩:=h2 k o hm;rfl
 ·cases h;simp only at hr ⊢;refine⟨fun id aa=>?_,fun k o hm=>?_⟩
  ·simp[Zm,Zo,Zf] at aa;subst aa;exact hb _ (Kf _) (by omega)
  ·simp at hm;obtain⟨rfl,rfl⟩:=hm;simp only[QJ];congr 1
   rw[Kv (g:=id),Ld];exact fun c ab=>Ze5 (Zad hc c ab)
theorem ZoQ {c:COp} (hc:Zhp c=true) (he:∀ x∈Zr c,evO sl' x=evO sl x) (hs:∀ x∈Zr c,Zdu g hp hp' (evO sl x)) {ce:Zb}
  (hb:∀ k,base≤k→k<base+64→k∉g) (h:vop C M sl hp base c=some ce) (ab:Qu base (base+64) ce.eff.adds=true) (ad:ce.eff.frz=[]) (ho:okV ce.eff.val=true) (hk:kill g ce.eff.val=ce.eff.val):vop C M sl' hp' base c=some ce∧∀ k o,(k,o)∈ce.eff.adds→QJ g o=o:=by
 rw[QB C M hp' base he];have aa:ce.eff.adds=[]→∀ k o,(k,o)∈ce.eff.adds→QJ g o=o:=fun e k o hm=>by rw[e] at hm;simp at hm
 simp only[Zhp,K1,Kb] at hc;rcases hc with ((hc | hc) | ⟨hc1,hc2⟩) | hc
 ·cases c<;>simp only[VU,Ka] at hc<;>simp only[vop] at h ⊢ <;> simp only[Zr] at hs
  case load a s x=>exact⟨ZnQ h (ZoO (hs x (by simp)) (WH h) ho hk),aa (Qm h)⟩
  case slice s x lo hi=>
   rw[Za7 (hs x (by simp))];exact⟨h,aa (Qm h)⟩
  case slice0 x hi mx=>
   unfold slice0 at h ⊢;rw[JH (hs x (by simp))];exact⟨h,aa (Qm h)⟩
  case iaS s x i=>
   obtain⟨n,h1,h⟩:=Za h;rw[h1,Zc];unfold Zcq at h ⊢;rw[WP (hs x (by simp))];refine⟨h,aa ?_⟩;split at h
   ·exact Qm h
   ·cases h
  case len x=>
   rw[JH (hs x (by simp))];refine⟨h,aa ?_⟩;obtain⟨n,_,h⟩:=Za h;exact ZL h
 ·cases c<;>simp only[Zi3,Ka] at hc
  simp only[vop] at h ⊢;obtain⟨h1,h2,h3⟩:=Zck h ad hp';refine⟨h1,fun k o hm=>?_⟩;obtain⟨sz,xs,e,f,rfl⟩:=h3 k o hm;rfl
 ·rw[← Zdv (hp:=hp) hc1];exact⟨h,aa (ZmT hc1 hc2 h)⟩
 ·cases c<;>simp only[ZfJ,Ka] at hc
  simp only[vop] at h ⊢;exact⟨h,(Ze6 hb hc h ab).2⟩
theorem ZmU {c:COp} (hc:ZdL c=true) (he:∀ x∈Zr c,evO sl' x=evO sl x) (hs:∀ x∈Zr c,Zdu g hp hp' (evO sl x)) {ce:Zb}
  (hn:∀ x∈Zr c,∀ id∈Zm (evO sl x),id∉g) (hb:∀ k,base≤k→k<base+64→k∉g)
  (h:vop C M sl' hp' base c=some ce) (ad:Qu base (base+64) ce.eff.adds=true) (ae:ce.eff.frz=[]) (ho:okV ce.eff.val=true):vop C M sl hp base c=some ce∧kill g ce.eff.val=ce.eff.val∧∀ k o,(k,o)∈ce.eff.adds→QJ g o=o:=by
 rw[QB C M hp' base he] at h;have aa:ce.eff.adds=[]→∀ k o,(k,o)∈ce.eff.adds→QJ g o=o:=fun e k o hm=>by rw[e] at hm;simp at hm
 have names:(∀ id∈Zm ce.eff.val,id∉g)→kill g ce.eff.val=ce.eff.val:=ZnP ho;cases c<;>simp only[ZdL,Ka] at hc<;>simp only[vop] at h ⊢ <;> simp only[Zr] at hs hn
 case alloc slc cs=>
  obtain⟨h1,h2⟩:=Ze6 hb hc h ad;exact⟨h,names h1,h2⟩
 case buildSl s xs=>
  obtain⟨h1,h2,h3⟩:=Zck h ae hp;refine⟨h1,names fun id ab=>?_,fun k o hm=>?_⟩
  ·rcases h2 with h2 | h2
   ·rw[h2] at ab;simp[Zm,Zo,Zf] at ab
   ·rw[h2] at ab;simp[Zm,Zo,Zf] at ab;subst ab;exact hb _ (Kf _) (by omega)
  ·obtain⟨sz,xs,e,f,rfl⟩:=h3 k o hm;rfl
 case load a s x=>
  obtain⟨h1,h2⟩:=ZoP (hs x (by simp)) (WH h) ho;exact⟨ZnQ h h1,h2,aa (Qm h)⟩
 case nilCheck x=>
  have hx:=hn x (by simp);refine⟨h,names ?_,aa ?_⟩
  ·unfold Wf at h;split at h<;>rename_i hv<;>first | (cases h;done) | (cases h;show ∀ id∈Zm _,_;rw[← hv];exact hx)
  ·unfold Wf at h;split at h<;>first | exact ZL h | cases h
 case bin op eq x y=>
  have hd:∃ d,ce.eff.val=.d d:=by
   have o2:∀ {a b:AV},X2 (vbin op a b)=some ce→∃ d,ce.eff.val=.d d:=fun {a b} h=>by
    have h1:=WH h;unfold vbin at h1;split at h1
    ·unfold V9 at h1;split at h1
     ·obtain⟨y,_,h1⟩:=Za h1;exact⟨_,(Option.some.inj h1).symm⟩
     ·obtain⟨y,_,h1⟩:=Za h1;exact⟨_,(Option.some.inj h1).symm⟩
     ·split at h1
      ·obtain⟨y,_,h1⟩:=Za h1;have:=Option.some.inj h1;exact⟨_,this.symm⟩
      ·cases h1
    ·obtain⟨y,_,h1⟩:=Za h1;have:=Option.some.inj h1;exact⟨_,this.symm⟩
    ·cases h1
   unfold Zg9 at h;split at h
   ·split at h
    ·have h1:=WH h;unfold Zix at h1;split at h1
     ·exact⟨_,(Option.some.inj h1).symm⟩
     ·exact⟨_,(Option.some.inj h1).symm⟩
     ·cases h1
    ·cases h
   ·exact o2 h
  obtain⟨d,hd⟩:=hd;refine⟨h,by rw[hd];rfl,aa ?_⟩;unfold Zg9 at h;split at h
  ·split at h
   ·exact Qm h
   ·cases h
  ·exact Qm h
 case un op x=>
  have hd:∃ d,ce.eff.val=.d d:=by
   have h1:=WH h;unfold vun at h1;split at h1
   ·unfold neg1 at h1;split at h1
    ·exact⟨_,(Option.some.inj h1).symm⟩
    ·cases h1
   ·unfold not1 at h1;split at h1
    ·exact⟨_,(Option.some.inj h1).symm⟩
    ·cases h1
   ·cases h1
  obtain⟨d,hd⟩:=hd;exact⟨h,by rw[hd];rfl,aa (Qm h)⟩
 case convI k x=>
  unfold Go.Abs.convI at h ⊢;split at h
  ·exact⟨h,by cases h;rfl,aa (ZL h)⟩
  ·cases h
 case shift off x=>
  have hx:=hn x (by simp);refine⟨h,names ?_,aa ?_⟩
  ·unfold Yx at h;split at h<;>rename_i hv<;>first | (cases h;done) | skip
   ·cases h;rw[hv] at hx;simpa [Zm,Zo,Zf] using hx
   ·cases h;rw[hv] at hx;simpa [Zm,Zo,Zf] using hx
   ·cases h;simp[Zm,Zo,Zf]
  ·unfold Yx at h;split at h<;>first | exact ZL h | cases h
 case slice s x lo hi=>
  have hx:=hn x (by simp);rw[Za7 (hs x (by simp))] at h;refine⟨h,names ?_,aa (Qm h)⟩;have h1:=WH h;cases hv:evO sl x<;>rw[hv] at h1 hx<;>simp only[X1] at h1<;>first | (cases h1;done) | skip
  case d y=>
   cases y<;>simp only[X1] at h1<;>first | (cases h1;done) | skip
   split at h1
   ·obtain⟨b,_,h1⟩:=Za h1;rw[← Option.some.inj h1];simp[Zm,Zo,Zf]
   ·cases h1
  case nil=>obtain⟨b,_,h1⟩:=Za h1;rw[← Option.some.inj h1];simp[Zm,Zo,Zf]
  case own id=>
   unfold UD at h1;split at h1
   ·split at h1
    ·unfold ZlM at h1;split at h1
     ·rw[← Option.some.inj h1];exact hx
     ·obtain⟨b,_,h1⟩:=Za h1;rw[← Option.some.inj h1];simpa [Zm,Zo,Zf] using hx
    ·cases h1
   ·cases h1
  case ownv id off n=>
   unfold We at h1;split at h1
   ·split at h1
    ·obtain⟨b,_,h1⟩:=Za h1;rw[← Option.some.inj h1];simpa [Zm,Zo,Zf] using hx
    ·cases h1
   ·cases h1
 case sliceS x lo hi=>
  have hd:∃ d,ce.eff.val=.d d:=by
   have h1:=WH h;unfold sliceS at h1;split at h1
   ·obtain⟨b,_,h1⟩:=Za h1;exact⟨_,(Option.some.inj h1).symm⟩
   ·cases h1
  obtain⟨d,hd⟩:=hd;exact⟨h,by rw[hd];rfl,aa (Qm h)⟩
 case lenS x=>
  obtain⟨n,h1,h⟩:=Za h;refine⟨by rw[h1,Zc];exact h,by cases h;rfl,aa (ZL h)⟩
 case iaS s x i=>
  have hx:=hn x (by simp);obtain⟨n,h1,h⟩:=Za h;rw[h1,Zc];unfold Zcq at h ⊢;rw[WP (hs x (by simp))] at h;refine⟨h,names ?_,aa ?_⟩
  ·split at h
   ·have h1:=WH h;cases hv:evO sl x<;>rw[hv] at h1 hx<;>simp only[Z9] at h1<;>first | (cases h1;done) | skip
    case d y=>
     cases y<;>simp only[Z9] at h1<;>first | (cases h1;done) | skip
     obtain⟨b,_,h1⟩:=Za h1;unfold ZnZ at h1;split at h1
     ·rw[← Option.some.inj h1];simp[Zm,Zo,Zf]
     ·cases h1
    case own id=>
     unfold U4 at h1;split at h1
     ·split at h1
      ·rw[← Option.some.inj h1];simpa [Zm,Zo,Zf] using hx
      ·cases h1
     ·split at h1
      ·rw[← Option.some.inj h1];simpa [Zm,Zo,Zf] using hx
      ·cases h1
     ·cases h1
    case ownv id off n=>
     unfold UC at h1;split at h1
     ·split at h1
      ·rw[← Option.some.inj h1];simpa [Zm,Zo,Zf] using hx
      ·cases h1
     ·cases h1
   ·cases h
  ·split at h
   ·exact Qm h
   ·cases h
 case len x=>
  rw[JH (hs x (by simp))] at h;obtain⟨n,h1,h2⟩:=Za h;exact⟨h,by cases h2;rfl,aa (ZL h2)⟩
end
end Go.Abs
