/- Own text. -/
import Derived.Test.YtighjmleicikhaaAbsDraw3
import Derived.Test.YtighjmleicikhaaAbsSound5
set_option linter.unusedVariables false
set_option linter.unusedSimpArgs false
namespace Go.Abs
open Go
theorem Zm2 {v:AV} (h:okC v=true):okV v=true:=by
 cases v<;>first | exact h | cases h
theorem Zef {g:List Nat} {v:AV} (h:okC (ZQ g v)=true):ZQ g v=v:=by
 cases v<;>simp only[ZQ] at h ⊢ <;> first | rfl | (split at h<;>rename_i h' <;> first | (cases h;done) | rw[Kp h'])
theorem ZcN {g:List Nat}:∀ {cs:List AV},ZjY (cs.map (ZQ g))=true→cs.map (ZQ g)=cs
 | [],_=>rfl
 | c :: cs,h=>by
  simp only[Km,ZjY,Kb] at h ⊢;rw[Zef h.1,ZcN h.2]
theorem JZ {g:List Nat} {v:AV} (h:okV (ZB g v)=true):ZB g v=v:=by
 cases v with
 | agg cs=>simp only[ZB,okV] at h ⊢;rw[ZcN h]
 | clo f cs=>simp only[ZB,okV,okC] at h;cases h
 | tup vs=>rfl
 | _=>
  simp only[ZB] at h ⊢;refine Zef ?_;revert h;simp only[ZQ]
  first | exact id | (split<;>first | exact id | (intro h;cases h))
theorem UL {g:List Nat} {v:AV} (h:okV (kill g v)=true):kill g v=v:=by
 cases v with
 | tup vs=>
  cases vs with
  | nil=>rfl
  | cons x r=>simp only[kill,Km,okV,okC] at h;cases h
 | _=>simp only[kill] at h ⊢;exact JZ h
theorem ZkM {g:List Nat} {v:AV} (hn:∀ id∈Zf v,id∉g):ZQ g v=v:=by
 cases v<;>simp only[ZQ]<;>first | rfl | (rw[Kp];simpa [Zf] using hn)
theorem Zm3 {g:List Nat} {v:AV} (h:okV v=true) (hn:∀ id∈Zo v,id∉g):kill g v=v:=by
 cases v with
 | tup vs=>
  cases vs with
  | nil=>rfl
  | cons x r=>simp only[okV,okC] at h;cases h
 | clo f cs=>simp only[okV,okC] at h;cases h
 | agg cs=>
  simp only[kill,ZB];congr 1
  rw[Ky (g:=id),Lm];intro c hc;exact ZkM fun id aa=>hn id (by simp only[Zo,Zp,Kn];exact⟨c,hc,aa⟩)
 | _=>simp only[kill,ZB];exact ZkM hn
theorem Zo1 {g:List Nat} {v:AV} (h:kill g v=v):∀ id∈Zo v,id∉g:=fun id aa=>(Ziq g v id (by rw[h];exact aa)).2
theorem ZnV {g:List Nat} {c:AV} (h:okC c=true) (h1:ZQ g c=c):ZB g c=c:=by
 cases c<;>simp only[ZB]<;>first | exact h1 | cases h
def UM (g:List Nat):Option Zh→Option Zh→Prop
 | none,none=>True
 | some (.row s xs _ _),some (.row s' xs' _ _)=>s'=s∧xs'=xs
 | some (.box cs),some (.box cs')=>cs'=cs.map (ZB g)
 | some (.tree s n xs l),some (.tree s' n' xs' l')=>s'=s∧n'=n∧xs'=xs∧l'=YE g l
 | some .gone,some .gone=>True
 | _,_=>False
theorem ZkN {g:List Nat} {b:Bool} (o:Option Zh):UM g o ((o.map (QJ g)).map fun o=>if b then X0 o else o):=by
 cases o with
 | none=>trivial
 | some o=>cases o<;>cases b<;>exact(by first | exact⟨rfl,rfl⟩ | exact rfl | exact⟨rfl,rfl,rfl,rfl⟩ | exact trivial)
theorem ZiB {g:List Nat}:∀ {l:List AV} {ds:List D},Zag l=some ds→l.map (ZB g)=l
 | [],ds,_=>rfl
 | v :: l,ds,h=>by
  simp only[Zag] at h;obtain⟨x,h1,h⟩:=Za h;obtain⟨aa,h2,h⟩:=Za h;have:ZB g v=v:=by cases v<;>first | rfl | cases h1
  rw[Km,this,ZiB h2]
theorem Zgn {g:List Nat}:∀ {l:List AV} {ds:List D},Zag (l.map (ZB g))=some ds→l.map (ZB g)=l
 | [],ds,_=>rfl
 | v :: l,ds,h=>by
  simp only[Km,Zag] at h;obtain⟨x,h1,h⟩:=Za h;obtain⟨aa,h2,h⟩:=Za h;have hv:ZB g v=v:=by
   refine JZ ?_;cases hk:ZB g v<;>rw[hk] at h1<;>first | rfl | cases h1
  rw[Km,hv,Zgn h2]
theorem Zba (l:List AV):(∃ ds,Zag l=some ds∧V7 l=.d (.agg ds))∨(Zag l=none∧(V7 l=.junk∨V7 l=.agg l)):=by
 unfold V7;cases h:Zag l with
 | some ds=>exact .inl ⟨ds,rfl,rfl⟩
 | none=>
  refine .inr ⟨rfl,?_⟩;unfold VD;split
  ·rename_i h;cases h
  ·split
   ·exact .inl rfl
   ·exact .inr rfl
theorem Zdo:∀ {l:List AV},ZjY l=true→∀ c∈l,okC c=true
 | [],_,c,hc=>by simp at hc
 | x :: l,h,c,hc=>by
  simp only[ZjY,Kb] at h;rcases Ke.1 hc with rfl | hc
  ·exact h.1
  ·exact Zdo h.2 c hc
theorem ZnW {g:List Nat} {l:List AV} (h:okV (V7 l)=true) (hk:kill g (V7 l)=V7 l):l.map (ZB g)=l:=by
 rcases Zba l with ⟨ds,h1,h2⟩ | ⟨h1,h2 | h2⟩
 ·exact ZiB h1
 ·rw[h2] at h;cases h
 ·rw[h2] at h hk;simp only[kill,ZB,AV.agg.injEq] at hk;simp only[okV] at h;have hm:=Zdo h;have aa : ∀ c∈l,ZQ g c=c:=by
   intro c hc;have:=ZcN (g:=g) (cs:=l) (by rw[hk];exact h);exact Zef (by
    have h3:ZQ g c∈l.map (ZQ g):=List.mem_map_of_mem hc;rw[hk] at h3;exact hm _ h3)
  rw[Ky (g:=id),Lm];intro c hc;exact ZnV (hm c hc) (aa c hc)
theorem ZnX {g:List Nat} {l:List AV} (h:okV (V7 (l.map (ZB g)))=true):l.map (ZB g)=l:=by
 rcases Zba (l.map (ZB g)) with ⟨ds,h1,h2⟩ | ⟨h1,h2 | h2⟩
 ·exact Zgn h1
 ·rw[h2] at h;cases h
 ·rw[h2] at h;simp only[okV] at h;have hm:=Zdo h;rw[Ky (g:=id),Lm];intro c hc;exact JZ (Zm2 (hm _ (List.mem_map_of_mem hc)))
theorem Zl1 {g:List Nat} {v:AV} (h:okV v=true) (hk:kill g v=v):ZB g v=v:=by
 cases v with
 | tup vs=>rfl
 | _=>simp only[kill] at hk;exact hk
theorem Zl2 {g:List Nat} {v:AV} (h:okV v=true) (hk:ZB g v=v):kill g v=v:=by
 cases v with
 | tup vs=>
  cases vs with
  | nil=>rfl
  | cons x r=>simp only[okV,okC] at h;cases h
 | _=>simp only[kill];exact hk
theorem Zcr {α β:Type} (f:α→β) (l:List α) (a b:Nat):((l.map f).drop a).take b=((l.drop a).take b).map f:=by
 rw[← List.map_drop,← List.map_take]
theorem Ze0 (g:List Nat) (c:AV):Zdu (ZB g c)=ZB g (Zdu c):=by
 have aa:∀ v:AV,(∀ a b,v≠.bbuf a b)→Zdu v=v:=fun v h'=>by cases v<;>first | rfl | exact absurd rfl (h' _ _)
 by_cases h' : ∃ a b,c=.bbuf a b
 ·obtain⟨a,b,rfl⟩:=h';rfl
 ·have h2:∀ a b,c≠.bbuf a b:=fun a b e=>h' ⟨a,b,e⟩;rw[aa c h2,aa];exact fun a b e=>h2 a b ((VN g c a b).1 e)
theorem ZkO {g:List Nat} {cs:List AV} {a:Bool} {s off:Nat} {v:AV} (h:W0 a s off (some (.box cs))=some v) (ho:okV v=true) (hk:kill g v=v):W0 a s off (some (.box (cs.map (ZB g))))=some v:=by
 unfold W0 at h ⊢;cases a with
 | true=>
  simp only[Kh] at h ⊢;split at h
  ·rename_i hl;cases h;rw[Kv (by simpa using hl),Zcr,ZnW ho hk]
  ·cases h
 | false=>
  simp only[Ka,Kf] at h ⊢;obtain⟨c,hc,rfl⟩:=Option.map_eq_some_iff.1 h;rw[LB,hc];simp only[KR];rw[Ze0,Zl1 ho hk]
theorem ZkP {g:List Nat} {cs:List AV} {a:Bool} {s off:Nat} {v:AV} (h:W0 a s off (some (.box (cs.map (ZB g))))=some v) (ho:okV v=true):W0 a s off (some (.box cs))=some v∧kill g v=v:=by
 unfold W0 at h ⊢;cases a with
 | true=>
  simp only[Kh] at h ⊢;split at h
  ·rename_i hl;cases h;rw[Zcr] at ho ⊢;have he:=ZnX ho;rw[he] at ho ⊢;refine⟨by rw[Kv (by simpa using hl)],?_⟩;rcases Zba ((cs.drop off).take s) with ⟨ds,h1,h2⟩ | ⟨h1,h2 | h2⟩
   ·rw[h2];rfl
   ·rw[h2] at ho;cases ho
   ·rw[h2] at ho ⊢;simp only[okV] at ho;have hm:=Zdo ho;simp only[kill,ZB,AV.agg.injEq];rw[Ky (g:=id),Lm];intro c hc;have h3:ZB g c=c:=by
     refine JZ ?_;have h4:ZB g c∈((cs.drop off).take s).map (ZB g):=List.mem_map_of_mem hc;rw[he] at h4;exact Zm2 (hm _ h4)
    have:=hm c hc;cases c<;>first | exact h3 | cases this
  ·cases h
 | false=>
  simp only[Ka,Kf] at h ⊢;rw[LB] at h;cases hc:cs[off]? with
  | none=>rw[hc] at h;cases h
  | some c=>
   rw[hc] at h;simp only[KR,Option.some.injEq] at h;rw[Ze0] at h;have h3:ZB g (Zdu c)=Zdu c:=JZ (by rw[h];exact ho);rw[h3] at h;subst h;exact⟨rfl,Zl2 ho h3⟩
theorem Zl3 {g:List Nat} {o o' : Option Zh} (h:UM g o o'):Y2 o'=Y2 o:=by
 cases o with
 | none=>cases o' with
  | none=>rfl
  | some o'=>cases h
 | some o=>cases o' with
  | none=>cases o<;>cases h
  | some o' =>
   have tr:∀ s n xs l,Y2 (some (.tree s n xs (YE g l)))=Y2 (some (.tree s n xs l)):=by
    intro s n xs l;rcases l with _ | ⟨_ | nm,_⟩
    ·rfl
    ·rfl
    ·simp only[YE];split<;>rfl
   cases o<;>cases o' <;> simp only[UM] at h<;>first | (cases h;done) | rfl | (obtain⟨rfl,rfl⟩:=h;rfl) | (obtain⟨rfl,rfl,rfl,rfl⟩:=h;exact tr _ _ _ _)
theorem UN {g:List Nat} {o o' : Option Zh} (h:UM g o o'):(∃ s xs e f e' f',o=some (.row s xs e f)∧o'=some (.row s xs e' f'))∨(o=none∧o'=none)∨(∃ cs,o=some (.box cs)∧o'=some (.box (cs.map (ZB g))))∨(o=some .gone∧o'=some .gone)∨(∃ s n xs l,o=some (.tree s n xs l)∧o'=some (.tree s n xs (YE g l))):=by
 cases o with
 | none=>cases o' with
  | none=>exact .inr (.inl ⟨rfl,rfl⟩)
  | some o'=>cases h
 | some o=>cases o' with
  | none=>cases o<;>cases h
  | some o' =>
   cases o with
   | box cs=>cases o' with
    | box cs'=>simp only[UM] at h;subst h;exact .inr (.inr (.inl ⟨cs,rfl,rfl⟩))
    | row _ _ _ _=>cases h
    | gone=>cases h
    | tree _ _ _ _=>cases h
   | row s xs e f=>cases o' with
    | box cs'=>cases h
    | row s' xs' e' f'=>simp only[UM] at h;obtain⟨rfl,rfl⟩:=h;exact .inl ⟨_,_,_,_,_,_,rfl,rfl⟩
    | gone=>cases h
    | tree _ _ _ _=>cases h
   | gone=>cases o' with
    | box cs'=>cases h
    | row _ _ _ _=>cases h
    | gone=>exact .inr (.inr (.inr (.inl ⟨rfl,rfl⟩)))
    | tree _ _ _ _=>cases h
   | tree s n xs l=>cases o' with
    | box cs'=>cases h
    | row _ _ _ _=>cases h
    | gone=>cases h
    | tree s' n' xs' l'=>simp only[UM] at h;obtain⟨rfl,rfl,rfl,rfl⟩:=h;exact .inr (.inr (.inr (.inr ⟨_,_,_,_,rfl,rfl⟩)))
section
variable {g:List Nat} {o o' : Option Zh}
theorem ZjB (h:UM g o o') (sz id n:Nat):Jr sz id n o'=Jr sz id n o:=by
 rcases UN h with ⟨s,xs,e,f,e',f',rfl,rfl⟩ | ⟨rfl,rfl⟩ | ⟨cs,rfl,rfl⟩ | ⟨rfl,rfl⟩ | ⟨s,n,xs,l,rfl,rfl⟩<;>rfl
theorem ZhS (h:UM g o o') (sz id off m n:Nat):UT sz id off m n o'=UT sz id off m n o:=by
 rcases UN h with ⟨s,xs,e,f,e',f',rfl,rfl⟩ | ⟨rfl,rfl⟩ | ⟨cs,rfl,rfl⟩ | ⟨rfl,rfl⟩ | ⟨s,n,xs,l,rfl,rfl⟩<;>rfl
theorem ZhT (h:UM g o o') (s id:Nat) (lo hi:Option AV):UU s id lo hi o'=UU s id lo hi o:=by
 rcases UN h with ⟨s,xs,e,f,e',f',rfl,rfl⟩ | ⟨rfl,rfl⟩ | ⟨cs,rfl,rfl⟩ | ⟨rfl,rfl⟩ | ⟨s,n,xs,l,rfl,rfl⟩<;>rfl
theorem Zgo (h:UM g o o') (s id off n:Nat) (lo hi:Option AV):WP s id off n lo hi o'=WP s id off n lo hi o:=by
 rcases UN h with ⟨s,xs,e,f,e',f',rfl,rfl⟩ | ⟨rfl,rfl⟩ | ⟨cs,rfl,rfl⟩ | ⟨rfl,rfl⟩ | ⟨s,n,xs,l,rfl,rfl⟩<;>rfl
theorem ZjC {i off:Nat} {l:Option (Option Nat×Nat×Nat)} {x:D} {v:AV} (h:We i off l x=some v) (hk:kill g v=v):We i off (YE g l) x=some v:=by
 unfold We at h ⊢;split at h
 ·unfold Ze8 at h;split at h
  ·rename_i nm i' c;split at h
   ·rename_i hc;cases h;have:g.contains nm=false:=by
     cases hg:g.contains nm with
     | false=>rfl
     | true=>simp only[kill,ZB,ZQ,hg,Kh] at hk;cases hk
    simp only[YE,this,Ka,Kf,Ze8,hc,and_self,Kh]
   ·cases h
  ·cases h
 ·exact h
 ·cases h
theorem ZjD {i off:Nat} {l:Option (Option Nat×Nat×Nat)} {x:D} {v:AV} (h:We i off (YE g l) x=some v):We i off l x=some v∧kill g v=v:=by
 unfold We at h ⊢;split at h
 ·unfold Ze8 at h;split at h
  ·rename_i nm i' c hl;split at h
   ·rename_i hc;cases h;unfold YE at hl;split at hl
    ·rename_i ab q;split at hl
     ·cases hl
     ·rename_i hg;cases hl;simp only[Bool.not_eq_true] at hg;exact⟨by simp only[Ze8,hc,and_self,Kh],by simp only[kill,ZB,ZQ,hg,Ka,Kf]⟩
    ·rename_i aa;subst hl;exact absurd rfl (aa _ _)
   ·cases h
  ·cases h
 ·split at h
  ·rename_i hp;cases h;exact⟨by rw[Kv hp],rfl⟩
  ·cases h
 ·cases h
theorem Zdp {id:Nat} (h:UM g o o') {a:Bool} {s sz i off:Nat} {v:AV}:(Wf id a s sz i off o=some v→kill g v=v→Wf id a s sz i off o'=some v)∧(Wf id a s sz i off o'=some v→Wf id a s sz i off o=some v∧kill g v=v):=by
 have aa:∀ {cs:List D},UR a s off cs=some v→∃ d,v=.d d:=by
  intro cs h;unfold UR at h;split at h
  ·split at h
   ·cases h;exact⟨_,rfl⟩
   ·cases h
  ·unfold asD at h;obtain⟨y,_,h⟩:=Za h;cases h;exact⟨_,rfl⟩
 rcases UN h with ⟨s,xs,e,f,e',f',rfl,rfl⟩ | ⟨rfl,rfl⟩ | ⟨cs,rfl,rfl⟩ | ⟨rfl,rfl⟩ | ⟨s,n,xs,l,rfl,rfl⟩
 ·refine⟨fun h _=>h,fun h=>⟨h,?_⟩⟩;simp only[Wf] at h;split at h
  ·obtain⟨x,_,h⟩:=Za h;unfold Zdv at h;split at h
   ·obtain⟨d,rfl⟩:=aa h;rfl
   ·cases h
  ·cases h
 ·exact⟨fun h _=>(by cases h),fun h=>(by cases h)⟩
 ·exact⟨fun h _=>(by cases h),fun h=>(by cases h)⟩
 ·exact⟨fun h _=>(by cases h),fun h=>(by cases h)⟩
 ·simp only[Wf];split
  ·split
   ·exact⟨fun h _=>(by cases h),fun h=>(by cases h)⟩
   ·constructor
    ·intro hh hk;obtain⟨x,h1,hh⟩:=Za hh;rw[h1,Zc];exact ZjC hh hk
    ·intro hh;obtain⟨x,h1,hh⟩:=Za hh;rw[h1,Zc];exact ZjD hh
  ·exact⟨fun h _=>(by cases h),fun h=>(by cases h)⟩
end
section
variable {hp hp' : Hp} {g:List Nat}
def Zdq (g:List Nat) (hp hp' : Hp) (v:AV):Prop:=∀ k∈Zo v,UM g (lkp hp k) (lkp hp' k)
theorem J0 {v:AV} (h:Zdq g hp hp' v):JF hp' v=JF hp v:=by
 cases v<;>simp only[JF]
 case d x=>cases x<;>rfl
 case own id=>rw[Zl3 (h id (by simp[Zo,Zp,Zf]))]
theorem Ug {v:AV} (h:Zdq g hp hp' v) (sz n:Nat):Qd hp' sz n v=Qd hp sz n v:=by
 cases v<;>simp only[Qd]
 case d x=>cases x<;>rfl
 case own id=>rw[ZjB (h id (by simp[Zo,Zp,Zf]))]
 case ownv id off n=>rw[ZhS (h id (by simp[Zo,Zp,Zf]))]
theorem Zbb {v:AV} (h:Zdq g hp hp' v) (s:Nat) (lo hi:Option AV):Yp hp' s lo hi v=Yp hp s lo hi v:=by
 cases v<;>simp only[Yp]
 case d x=>cases x<;>rfl
 case own id=>rw[ZhT (h id (by simp[Zo,Zp,Zf]))]
 case ownv id off n=>rw[Zgo (h id (by simp[Zo,Zp,Zf]))]
theorem ZnY {x v:AV} (hs:Zdq g hp hp' x) {a:Bool} {s:Nat} (h:Vo hp a s x=some v) (ho:okV v=true) (hk:kill g v=v):Vo hp' a s x=some v:=by
 cases x<;>simp only[Vo] at h ⊢ <;> first | (cases h;done) | skip
 case ptr id off=>
  rcases UN (hs id (by simp[Zo,Zp,Zf])) with ⟨_,_,_,_,_,_,e1,e2⟩ | ⟨e1,e2⟩ | ⟨cs,e1,e2⟩ | ⟨e1,e2⟩ | ⟨_,_,_,_,e1,e2⟩
  ·rw[e1] at h;cases h
  ·rw[e1] at h;cases h
  ·rw[e1] at h;rw[e2];exact ZkO h ho hk
  ·rw[e1] at h;cases h
  ·rw[e1] at h;cases h
 case prow id sz i off=>exact(Zdp (hs id (by simp[Zo,Zp,Zf]))).1 h hk
 case pim cs=>exact h
theorem Zo2 {a:Bool} {s off:Nat} {cs:List D} {v:AV} (h:UR a s off cs=some v):∃ d,v=.d d:=by
 unfold UR at h;split at h
 ·split at h
  ·cases h;exact⟨_,rfl⟩
  ·cases h
 ·unfold asD at h;obtain⟨y,_,h⟩:=Za h;cases h;exact⟨_,rfl⟩
theorem ZnZ {x v:AV} (hs:Zdq g hp hp' x) {a:Bool} {s:Nat} (h:Vo hp' a s x=some v) (ho:okV v=true):Vo hp a s x=some v∧kill g v=v:=by
 cases x<;>simp only[Vo] at h ⊢ <;> first | (cases h;done) | skip
 case ptr id off=>
  rcases UN (hs id (by simp[Zo,Zp,Zf])) with ⟨_,_,_,_,_,_,e1,e2⟩ | ⟨e1,e2⟩ | ⟨cs,e1,e2⟩ | ⟨e1,e2⟩ | ⟨_,_,_,_,e1,e2⟩
  ·rw[e2] at h;cases h
  ·rw[e2] at h;cases h
  ·rw[e2] at h;rw[e1];exact ZkP h ho
  ·rw[e2] at h;cases h
  ·rw[e2] at h;cases h
 case prow id sz i off=>
  exact(Zdp (hs id (by simp[Zo,Zp,Zf]))).2 h
 case pim cs=>
  obtain⟨d,rfl⟩:=Zo2 h;exact⟨h,rfl⟩
theorem Ze1 {x:AV} {d:D} {e:Bool} (h:Uo hp x=some (d,e,[])) (hp' : Hp):Uo hp' x=some (d,e,[]):=by
 cases x<;>simp only[Uo] at h ⊢ <;> first | exact h | skip
 case own id=>obtain⟨q,_,h⟩:=Za h;simp at h
theorem Ze2:∀ {xs:List AV} {d:List D} {e:Bool},Yt hp xs=some (d,e,[])→∀ hp' : Hp,Yt hp' xs=some (d,e,[])
 | [],d,e,h,hp'=>h
 | x :: xs,d,e,h,hp'=>by
  simp only[Yt] at h ⊢;obtain⟨⟨d1,e1,l1⟩,h1,h⟩:=Za h;obtain⟨⟨d2,e2,l2⟩,h2,h⟩:=Za h;have hl:l1=[]∧l2=[]:=by
   simp only at h;split at h
   ·simp only[Option.some.injEq,Prod.mk.injEq,List.append_eq_nil_iff] at h;exact h.2.2
   ·cases h
  obtain⟨rfl,rfl⟩:=hl;rw[Ze1 h1 hp',Zc,Ze2 h2 hp',Zc];exact h
theorem Zl4 {x:AV} {d:D} {e:Bool} (h:give hp x=some (d,e,[])) (hp' : Hp):give hp' x=some (d,e,[]):=by
 cases x<;>simp only[give] at h ⊢ <;> first | exact Ze1 h hp' | skip
 case agg cs=>
  obtain⟨⟨d1,e1,l1⟩,h1,h⟩:=Za h;simp only[Option.some.injEq,Prod.mk.injEq] at h;obtain⟨rfl,rfl,rfl⟩:=h;rw[Ze2 h1 hp',Zc]
theorem Zcs:∀ {xs:List AV} {d:List D} {e:Bool},Y3 hp xs=some (d,e,[])→∀ hp' : Hp,Y3 hp' xs=some (d,e,[])
 | [],d,e,h,hp'=>h
 | x :: xs,d,e,h,hp'=>by
  simp only[Y3] at h ⊢;obtain⟨⟨d1,e1,l1⟩,h1,h⟩:=Za h;obtain⟨⟨d2,e2,l2⟩,h2,h⟩:=Za h;have hl:l1=[]∧l2=[]:=by
   simp only at h;split at h
   ·simp only[Option.some.injEq,Prod.mk.injEq,List.append_eq_nil_iff] at h;exact h.2.2
   ·cases h
  obtain⟨rfl,rfl⟩:=hl;rw[Zl4 h1 hp',Zc,Zcs h2 hp',Zc];exact h
theorem Zct {base s:Nat} {vs:List AV} {ce:Zb} (h:buildSl hp base s vs=some ce) (hf:ce.eff.frz=[]) (hp' : Hp) :
  buildSl hp' base s vs=some ce∧(ce.eff.val=.nil∨ce.eff.val=.own base)∧(∀ k o,(k,o)∈ce.eff.adds→∃ sz xs e f,o=.row sz xs e f):=by
 cases vs with
 | nil=>simp only[buildSl,Qk] at h ⊢;cases h;exact⟨rfl,.inl rfl,fun k o h=>by simp at h⟩
 | cons v vs=>
  simp only[buildSl] at h ⊢;obtain⟨⟨ds,e,l⟩,h1,h⟩:=Za h;unfold Zog at h;split at h
  ·rename_i hc;cases h;simp only at hf;subst hf;rw[Zcs h1 hp',Zc];refine⟨?_,.inr rfl,fun k o ho=>?_⟩
   ·unfold Zog;rw[Kv hc]
   ·simp at ho;obtain⟨rfl,rfl⟩:=ho;exact⟨_,_,_,_,rfl⟩
  ·cases h
end
theorem Zdr {C:Orc} {M:Zg} {sl:Sl} {hp hp' : Hp} {base:Nat} {c:COp} (hc:YO c=true):vop C M sl hp base c=vop C M sl hp' base c:=by
 cases c<;>first | rfl | (simp[YO] at hc)
section
variable {C:Orc} {M:Zg} {sl sl' : Sl} {hp hp' : Hp} {base:Nat} {g:List Nat}
theorem ZO {v:AV} {ce:Zb} (h:Qk v=some ce):ce.eff.adds=[]:=by cases h;rfl
theorem Qm {v:Option AV} {ce:Zb} (h:Yq v=some ce):ce.eff.adds=[]:=by obtain⟨v,_,h⟩:=Za h;exact ZO h
theorem W5 {v:Option AV} {ce:Zb} (h:Yq v=some ce):v=some ce.eff.val:=by obtain⟨v,rfl,h⟩:=Za h;cases h;rfl
theorem Zm4 {v:Option AV} {ce:Zb} {w:Option AV} (h:Yq v=some ce) (hw:w=some ce.eff.val):Yq w=some ce:=by
 obtain⟨v,rfl,h⟩:=Za h;cases h;rw[hw];rfl
theorem Zl5 {c:COp} (hc:YO c=true) (hv:Zmp c=true) {ce:Zb} (h:vop C M sl hp base c=some ce):ce.eff.adds=[]:=by
 cases c<;>simp only[YO,Zmp,Ka] at hc hv<;>simp only[vop] at h
 case stuck=>cases h
 case move x=>exact ZO h
 case pick c a b=>
  unfold Zbm at h;split at h
  ·split at h<;>exact ZO h
  ·cases h
 case build zs ps=>obtain⟨cs,_,h⟩:=Za h;exact ZO h
 case nilCheck x=>unfold WQ at h;split at h<;>first | exact ZO h | cases h
 case bin op eq x y=>
  unfold Zfo at h;split at h
  ·split at h
   ·exact Qm h
   ·cases h
  ·exact Qm h
 case un op x=>exact Qm h
 case eqA neg n x y=>
  unfold ZjN at h;split at h
  ·obtain⟨r,_,h⟩:=Za h;exact ZO h
  ·cases h
 case convI k x=>unfold Go.Abs.convI at h;split at h<;>first | exact ZO h | cases h
 case convS x=>unfold Go.Abs.convS at h;split at h<;>first | exact ZO h | cases h
 case sliceS x lo hi=>exact Qm h
 case shift off x=>unfold YN at h;split at h<;>first | exact ZO h | cases h
 case part g s off x=>exact Qm h
 case iaA len s x i=>
  obtain⟨n,_,h⟩:=Za h;unfold ZgF at h;split at h
  ·unfold YN at h;split at h<;>first | exact ZO h | cases h
  ·cases h
 case ixS x i=>
  obtain⟨n,_,h⟩:=Za h;unfold Zme at h;split at h
  ·unfold Zk1 at h;split at h
   ·obtain⟨b,_,h⟩:=Za h;exact ZO h
   ·cases h
  ·cases h
 case ixA g s len x i=>
  obtain⟨n,_,h⟩:=Za h;unfold Zoh at h;split at h
  ·exact Qm h
  ·cases h
 case nth i x=>unfold Zk2 at h;split at h<;>first | exact Qm h | cases h
 case lenS x=>obtain⟨n,_,h⟩:=Za h;exact ZO h
 case min x y=>unfold Ze9 at h;split at h<;>first | (split at h<;>first | exact ZO h | cases h) | cases h
 case max x y=>unfold Zfa at h;split at h<;>first | (split at h<;>first | exact ZO h | cases h) | cases h
theorem Ze3 {c:AV} (h:JM c=true):ZB g c=c:=by cases c<;>first | rfl | cases h
theorem Zan:∀ {cs:List AV},Yb cs=true→∀ c∈cs,JM c=true
 | [],_,c,hc=>by simp at hc
 | x :: l,h,c,hc=>by
  simp only[Yb,Kb] at h;rcases Ke.1 hc with rfl | hc
  ·exact h.1
  ·exact Zan h.2 c hc
theorem Zeg:∀ (slc:List (Option Nat)) (cs:List AV) (b:Nat),(∀ c∈(mat slc cs b).1,c∈cs∨∃ k o,c=.own k∧(k,o)∈(mat slc cs b).2)∧∀ k o,(k,o)∈(mat slc cs b).2→∃ sz,o=.row sz [] true false
 | [],cs,b=>by simp only[mat];exact⟨fun c hc=>.inl hc,fun k o h=>by simp at h⟩
 | t :: ts,[],b=>by cases t<;>(simp only[mat];exact⟨fun c hc=>.inl hc,fun k o h=>by simp at h⟩)
 | t :: ts,v :: vs,b=>by
  by_cases hv:(∃ sz,t=some sz)∧v=.nil
  ·obtain⟨⟨sz,rfl⟩,rfl⟩:=hv;obtain⟨h1,h2⟩:=Zeg ts vs (b+1);simp only[mat];refine⟨fun c hc=>?_,fun k o h=>?_⟩
   ·rcases Ke.1 hc with rfl | hc
    ·exact .inr ⟨b,_,rfl,KY ..⟩
    ·rcases h1 c hc with h | ⟨k,o,e,h⟩
     ·exact .inl (Ko _ h)
     ·exact .inr ⟨k,o,e,Ko _ h⟩
   ·rcases Ke.1 h with h | h
    ·cases h;exact⟨_,rfl⟩
    ·exact h2 k o h
  ·obtain⟨h1,h2⟩:=Zeg ts vs b;have e:mat (t :: ts) (v :: vs) b=(v :: (mat ts vs b).1,(mat ts vs b).2):=by
    cases t with
    | none=>simp[mat]
    | some sz=>cases v<;>first | (exact absurd ⟨⟨sz,rfl⟩,rfl⟩ hv) | simp[mat]
   rw[e];refine⟨fun c hc=>?_,h2⟩;rcases Ke.1 hc with rfl | hc
   ·exact .inl (KY ..)
   ·rcases h1 c hc with h | h
    ·exact .inl (Ko _ h)
    ·exact .inr h
theorem ZiC {base:Nat}:∀ {cs:List AV},Yb cs=true→cs.map (Zcj base)=cs
 | [],_=>rfl
 | c :: cs,h=>by
  simp only[Yb,Kb] at h;rw[Km,ZiC h.2];congr 1
  cases c<;>first | rfl | (simp[JM] at h)
theorem ZiD:∀ {cs:List AV},Yb cs=true→QP cs=true
 | [],_=>rfl
 | c :: cs,h=>by
  simp only[Yb,Kb] at h;have:=ZiD h.2;cases c<;>first | exact this | (simp[JM] at h)
theorem Ze4 {slc:List (Option Nat)} {cs:List AV} {ce:Zb} (hb:∀ k,base≤k→k<base+64→k∉g) (hc:Yb cs=true) (h:Zbn slc base cs=some ce) (ad:Qv base (base+64) ce.eff.adds=true) :
  (∀ id∈Zo ce.eff.val,id∉g)∧∀ k o,(k,o)∈ce.eff.adds→QJ g o=o:=by
 have hr:=VZ ad;unfold Zbn at h;rw[ZiC hc] at h;unfold ZgC at h;rw[Kp (by rw[ZiD hc];decide)] at h;split at h
 ·cases h;simp only at hr ⊢;obtain⟨h1,h2⟩:=Zeg slc cs (base+1);refine⟨fun id aa=>?_,fun k o hm=>?_⟩
  ·simp[Zo,Zp,Zf] at aa;subst aa;exact hb _ (Kj _) (by omega)
  ·rcases Ke.1 hm with hm | hm
   ·cases hm;simp only[QJ];congr 1
    rw[Ky (g:=id),Lm];intro c ab;rcases h1 c ab with h | ⟨k,o,rfl,h⟩
    ·exact Ze3 (Zan hc c h)
    ·have:=hr k o (Ko _ h);have hk:=hb k this.1 this.2;simp[ZB,ZQ,hk]
   ·obtain⟨sz,rfl⟩:=h2 k o hm;rfl
 ·cases h;simp only at hr ⊢;refine⟨fun id aa=>?_,fun k o hm=>?_⟩
  ·simp[Zo,Zp,Zf] at aa;subst aa;exact hb _ (Kj _) (by omega)
  ·simp at hm;obtain⟨rfl,rfl⟩:=hm;simp only[QJ];congr 1
   rw[Ky (g:=id),Lm];exact fun c ab=>Ze3 (Zan hc c ab)
theorem Zn0 {c:COp} (hc:ZgU c=true) (he:∀ x∈Zu c,evO sl' x=evO sl x) (hs:∀ x∈Zu c,Zdq g hp hp' (evO sl x)) {ce:Zb}
  (hb:∀ k,base≤k→k<base+64→k∉g) (h:vop C M sl hp base c=some ce) (ab:Qv base (base+64) ce.eff.adds=true) (ad:ce.eff.frz=[]) (ho:okV ce.eff.val=true) (hk:kill g ce.eff.val=ce.eff.val):vop C M sl' hp' base c=some ce∧∀ k o,(k,o)∈ce.eff.adds→QJ g o=o:=by
 rw[QE C M hp' base he];have aa:ce.eff.adds=[]→∀ k o,(k,o)∈ce.eff.adds→QJ g o=o:=fun e k o hm=>by rw[e] at hm;simp at hm
 simp only[ZgU,K3,Kb] at hc;rcases hc with ((hc | hc) | ⟨hc1,hc2⟩) | hc
 ·cases c<;>simp only[Wm,Ka] at hc<;>simp only[vop] at h ⊢ <;> simp only[Zu] at hs
  case load a s x=>exact⟨Zm4 h (ZnY (hs x (by simp)) (W5 h) ho hk),aa (Qm h)⟩
  case slice s x lo hi=>
   rw[Zbb (hs x (by simp))];exact⟨h,aa (Qm h)⟩
  case slice0 x hi mx=>
   unfold slice0 at h ⊢;rw[J0 (hs x (by simp))];exact⟨h,aa (Qm h)⟩
  case iaS s x i=>
   obtain⟨n,h1,h⟩:=Za h;rw[h1,Zc];unfold Zcz at h ⊢;rw[Ug (hs x (by simp))];refine⟨h,aa ?_⟩;split at h
   ·exact Qm h
   ·cases h
  case len x=>
   rw[J0 (hs x (by simp))];refine⟨h,aa ?_⟩;obtain⟨n,_,h⟩:=Za h;exact ZO h
 ·cases c<;>simp only[ZiV,Ka] at hc
  simp only[vop] at h ⊢;obtain⟨h1,h2,h3⟩:=Zct h ad hp';refine⟨h1,fun k o hm=>?_⟩;obtain⟨sz,xs,e,f,rfl⟩:=h3 k o hm;rfl
 ·rw[← Zdr (hp:=hp) hc1];exact⟨h,aa (Zl5 hc1 hc2 h)⟩
 ·cases c<;>simp only[ZfK,Ka] at hc
  simp only[vop] at h ⊢;exact⟨h,(Ze4 hb hc h ab).2⟩
theorem Zl6 {c:COp} (hc:ZdI c=true) (he:∀ x∈Zu c,evO sl' x=evO sl x) (hs:∀ x∈Zu c,Zdq g hp hp' (evO sl x)) {ce:Zb}
  (hn:∀ x∈Zu c,∀ id∈Zo (evO sl x),id∉g) (hb:∀ k,base≤k→k<base+64→k∉g)
  (h:vop C M sl' hp' base c=some ce) (ad:Qv base (base+64) ce.eff.adds=true) (ae:ce.eff.frz=[]) (ho:okV ce.eff.val=true):vop C M sl hp base c=some ce∧kill g ce.eff.val=ce.eff.val∧∀ k o,(k,o)∈ce.eff.adds→QJ g o=o:=by
 rw[QE C M hp' base he] at h;have aa:ce.eff.adds=[]→∀ k o,(k,o)∈ce.eff.adds→QJ g o=o:=fun e k o hm=>by rw[e] at hm;simp at hm
 have names:(∀ id∈Zo ce.eff.val,id∉g)→kill g ce.eff.val=ce.eff.val:=Zm3 ho;cases c<;>simp only[ZdI,Ka] at hc<;>simp only[vop] at h ⊢ <;> simp only[Zu] at hs hn
 case alloc slc cs=>
  obtain⟨h1,h2⟩:=Ze4 hb hc h ad;exact⟨h,names h1,h2⟩
 case buildSl s xs=>
  obtain⟨h1,h2,h3⟩:=Zct h ae hp;refine⟨h1,names fun id ab=>?_,fun k o hm=>?_⟩
  ·rcases h2 with h2 | h2
   ·rw[h2] at ab;simp[Zo,Zp,Zf] at ab
   ·rw[h2] at ab;simp[Zo,Zp,Zf] at ab;subst ab;exact hb _ (Kj _) (by omega)
  ·obtain⟨sz,xs,e,f,rfl⟩:=h3 k o hm;rfl
 case load a s x=>
  obtain⟨h1,h2⟩:=ZnZ (hs x (by simp)) (W5 h) ho;exact⟨Zm4 h h1,h2,aa (Qm h)⟩
 case nilCheck x=>
  have hx:=hn x (by simp);refine⟨h,names ?_,aa ?_⟩
  ·unfold WQ at h;split at h<;>rename_i hv<;>first | (cases h;done) | (cases h;show ∀ id∈Zo _,_;rw[← hv];exact hx)
  ·unfold WQ at h;split at h<;>first | exact ZO h | cases h
 case bin op eq x y=>
  have hd:∃ d,ce.eff.val=.d d:=by
   have o2:∀ {a b:AV},Yq (vbin op a b)=some ce→∃ d,ce.eff.val=.d d:=fun {a b} h=>by
    have h1:=W5 h;unfold vbin at h1;split at h1
    ·unfold V9 at h1;split at h1
     ·obtain⟨y,_,h1⟩:=Za h1;exact⟨_,(Option.some.inj h1).symm⟩
     ·obtain⟨y,_,h1⟩:=Za h1;exact⟨_,(Option.some.inj h1).symm⟩
     ·split at h1
      ·obtain⟨y,_,h1⟩:=Za h1;have:=Option.some.inj h1;exact⟨_,this.symm⟩
      ·cases h1
    ·obtain⟨y,_,h1⟩:=Za h1;have:=Option.some.inj h1;exact⟨_,this.symm⟩
    ·cases h1
   unfold Zfo at h;split at h
   ·split at h
    ·have h1:=W5 h;unfold Zio at h1;split at h1
     ·exact⟨_,(Option.some.inj h1).symm⟩
     ·exact⟨_,(Option.some.inj h1).symm⟩
     ·cases h1
    ·cases h
   ·exact o2 h
  obtain⟨d,hd⟩:=hd;refine⟨h,by rw[hd];rfl,aa ?_⟩;unfold Zfo at h;split at h
  ·split at h
   ·exact Qm h
   ·cases h
  ·exact Qm h
 case un op x=>
  have hd:∃ d,ce.eff.val=.d d:=by
   have h1:=W5 h;unfold vun at h1;split at h1
   ·unfold neg1 at h1;split at h1
    ·exact⟨_,(Option.some.inj h1).symm⟩
    ·cases h1
   ·unfold not1 at h1;split at h1
    ·exact⟨_,(Option.some.inj h1).symm⟩
    ·cases h1
   ·cases h1
  obtain⟨d,hd⟩:=hd;exact⟨h,by rw[hd];rfl,aa (Qm h)⟩
 case convI k x=>
  unfold Go.Abs.convI at h ⊢;split at h
  ·exact⟨h,by cases h;rfl,aa (ZO h)⟩
  ·cases h
 case shift off x=>
  have hx:=hn x (by simp);refine⟨h,names ?_,aa ?_⟩
  ·unfold YN at h;split at h<;>rename_i hv<;>first | (cases h;done) | skip
   ·cases h;rw[hv] at hx;simpa [Zo,Zp,Zf] using hx
   ·cases h;rw[hv] at hx;simpa [Zo,Zp,Zf] using hx
   ·cases h;simp[Zo,Zp,Zf]
  ·unfold YN at h;split at h<;>first | exact ZO h | cases h
 case slice s x lo hi=>
  have hx:=hn x (by simp);rw[Zbb (hs x (by simp))] at h;refine⟨h,names ?_,aa (Qm h)⟩;have h1:=W5 h;cases hv:evO sl x<;>rw[hv] at h1 hx<;>simp only[Yp] at h1<;>first | (cases h1;done) | skip
  case d y=>
   cases y<;>simp only[Yp] at h1<;>first | (cases h1;done) | skip
   split at h1
   ·obtain⟨b,_,h1⟩:=Za h1;rw[← Option.some.inj h1];simp[Zo,Zp,Zf]
   ·cases h1
  case nil=>obtain⟨b,_,h1⟩:=Za h1;rw[← Option.some.inj h1];simp[Zo,Zp,Zf]
  case own id=>
   unfold UU at h1;split at h1
   ·split at h1
    ·unfold ZkZ at h1;split at h1
     ·rw[← Option.some.inj h1];exact hx
     ·obtain⟨b,_,h1⟩:=Za h1;rw[← Option.some.inj h1];simpa [Zo,Zp,Zf] using hx
    ·cases h1
   ·cases h1
  case ownv id off n=>
   unfold WP at h1;split at h1
   ·split at h1
    ·obtain⟨b,_,h1⟩:=Za h1;rw[← Option.some.inj h1];simpa [Zo,Zp,Zf] using hx
    ·cases h1
   ·cases h1
 case sliceS x lo hi=>
  have hd:∃ d,ce.eff.val=.d d:=by
   have h1:=W5 h;unfold sliceS at h1;split at h1
   ·obtain⟨b,_,h1⟩:=Za h1;exact⟨_,(Option.some.inj h1).symm⟩
   ·cases h1
  obtain⟨d,hd⟩:=hd;exact⟨h,by rw[hd];rfl,aa (Qm h)⟩
 case lenS x=>
  obtain⟨n,h1,h⟩:=Za h;refine⟨by rw[h1,Zc];exact h,by cases h;rfl,aa (ZO h)⟩
 case iaS s x i=>
  have hx:=hn x (by simp);obtain⟨n,h1,h⟩:=Za h;rw[h1,Zc];unfold Zcz at h ⊢;rw[Ug (hs x (by simp))] at h;refine⟨h,names ?_,aa ?_⟩
  ·split at h
   ·have h1:=W5 h;cases hv:evO sl x<;>rw[hv] at h1 hx<;>simp only[Qd] at h1<;>first | (cases h1;done) | skip
    case d y=>
     cases y<;>simp only[Qd] at h1<;>first | (cases h1;done) | skip
     obtain⟨b,_,h1⟩:=Za h1;unfold Znd at h1;split at h1
     ·rw[← Option.some.inj h1];simp[Zo,Zp,Zf]
     ·cases h1
    case own id=>
     unfold Jr at h1;split at h1
     ·split at h1
      ·rw[← Option.some.inj h1];simpa [Zo,Zp,Zf] using hx
      ·cases h1
     ·split at h1
      ·rw[← Option.some.inj h1];simpa [Zo,Zp,Zf] using hx
      ·cases h1
     ·cases h1
    case ownv id off n=>
     unfold UT at h1;split at h1
     ·split at h1
      ·rw[← Option.some.inj h1];simpa [Zo,Zp,Zf] using hx
      ·cases h1
     ·cases h1
   ·cases h
  ·split at h
   ·exact Qm h
   ·cases h
 case len x=>
  rw[J0 (hs x (by simp))] at h;obtain⟨n,h1,h2⟩:=Za h;exact⟨h,by cases h2;rfl,aa (ZO h2)⟩
end
end Go.Abs
