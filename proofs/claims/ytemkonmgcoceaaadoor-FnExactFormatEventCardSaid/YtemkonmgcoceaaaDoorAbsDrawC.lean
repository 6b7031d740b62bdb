/- The abstract semantics: calls in regions that draw. Own text. -/
import Derived.Test.YtemkonmgcoceaaaDoorAbsDraw3
import Derived.Test.YtemkonmgcoceaaaDoorAbsSound5
set_option linter.unusedVariables false
set_option linter.unusedSimpArgs false
namespace Go.Abs
open Go
theorem Zm2 {v:AV} (h:okC v=true):okV v=true:=by
 cases v<;>first | exact h | cases h
theorem Zem {g:List Nat} {v:AV} (h:okC (ZQ g v)=true):ZQ g v=v:=by
 cases v<;>simp only[ZQ] at h ⊢ <;> first | rfl | (split at h<;>rename_i h' <;> first | (cases h;done) | rw[if_neg h'])
theorem ZcK {g:List Nat}:∀ {cs:List AV},ZjO (cs.map (ZQ g))=true→cs.map (ZQ g)=cs
 | [],_=>rfl
 | c :: cs,h=>by
  simp only[List.map_cons,ZjO,Bool.and_eq_true] at h ⊢
  rw[Zem h.1,ZcK h.2]
theorem JX {g:List Nat} {v:AV} (h:okV (ZG g v)=true):ZG g v=v:=by
 cases v with
 | agg cs=>simp only[ZG,okV] at h ⊢;rw[ZcK h]
 | clo f cs=>simp only[ZG,okV,okC] at h;cases h
 | tup vs=>rfl
 | _=>
  simp only[ZG] at h ⊢
  refine Zem ?_
  revert h
  simp only[ZQ]
  first | exact id | (split<;>first | exact id | (intro h;cases h))
theorem UG {g:List Nat} {v:AV} (h:okV (kill g v)=true):kill g v=v:=by
 cases v with
 | tup vs=>
  cases vs with
  | nil=>rfl
  | cons x r=>simp only[kill,List.map_cons,okV,okC] at h;cases h
 | _=>simp only[kill] at h ⊢;exact JX h
theorem ZkH {g:List Nat} {v:AV} (hn:∀ id∈Zf v,id∉g):ZQ g v=v:=by
 cases v<;>simp only[ZQ]<;>first | rfl | (rw[if_neg];simpa [Zf] using hn)
theorem Zm3 {g:List Nat} {v:AV} (h:okV v=true) (hn:∀ id∈Zs v,id∉g):kill g v=v:=by
 cases v with
 | tup vs=>
  cases vs with
  | nil=>rfl
  | cons x r=>simp only[okV,okC] at h;cases h
 | clo f cs=>simp only[okV,okC] at h;cases h
 | agg cs=>
  simp only[kill,ZG]
  congr 1
  rw[List.map_congr_left (g:=id),List.map_id]
  intro c hc
  exact ZkH fun id hid=>hn id (by simp only[Zs,Zu,List.mem_flatMap];exact⟨c,hc,hid⟩)
 | _=>simp only[kill,ZG];exact ZkH hn
theorem Zpe {g:List Nat} {v:AV} (h:kill g v=v):∀ id∈Zs v,id∉g:=fun id hid=>(Zei g v id (by rw[h];exact hid)).2
theorem ZnY {g:List Nat} {c:AV} (h:okC c=true) (h1:ZQ g c=c):ZG g c=c:=by
 cases c<;>simp only[ZG]<;>first | exact h1 | cases h
def UH (g:List Nat):Option Zi→Option Zi→Prop
 | none,none=>True
 | some (.row s xs _ _),some (.row s' xs' _ _)=>s'=s∧xs'=xs
 | some (.box cs),some (.box cs')=>cs'=cs.map (ZG g)
 | some (.deep s n xs l),some (.deep s' n' xs' l')=>s'=s∧n'=n∧xs'=xs∧l'=Zbg g l
 | _,_=>False
theorem ZkI {g:List Nat} {b:Bool} (o:Option Zi):UH g o ((o.map (Q2 g)).map fun o=>if b then X8 o else o):=by
 cases o with
 | none=>trivial
 | some o=>cases o<;>cases b<;>exact(by first | exact⟨rfl,rfl⟩ | exact rfl | exact⟨rfl,rfl,rfl,rfl⟩)
theorem Zio {g:List Nat}:∀ {l:List AV} {ds:List D},Zan l=some ds→l.map (ZG g)=l
 | [],ds,_=>rfl
 | v :: l,ds,h=>by
  simp only[Zan] at h
  obtain⟨x,h1,h⟩:=Za h
  obtain⟨ds',h2,h⟩:=Za h
  have:ZG g v=v:=by cases v<;>first | rfl | cases h1
  rw[List.map_cons,this,Zio h2]
theorem ZgE {g:List Nat}:∀ {l:List AV} {ds:List D},Zan (l.map (ZG g))=some ds→l.map (ZG g)=l
 | [],ds,_=>rfl
 | v :: l,ds,h=>by
  simp only[List.map_cons,Zan] at h
  obtain⟨x,h1,h⟩:=Za h
  obtain⟨ds',h2,h⟩:=Za h
  have hv:ZG g v=v:=by
   refine JX ?_
   cases hk:ZG g v<;>rw[hk] at h1<;>first | rfl | cases h1
  rw[List.map_cons,hv,ZgE h2]
theorem Zbm (l:List AV):(∃ ds,Zan l=some ds∧VO l=.d (.agg ds))∨(Zan l=none∧(VO l=.junk∨VO l=.agg l)):=by
 unfold VO
 cases h:Zan l with
 | some ds=>exact .inl ⟨ds,rfl,rfl⟩
 | none=>
  refine .inr ⟨rfl,?_⟩
  unfold Vd
  split
  ·rename_i h;cases h
  ·split
   ·exact .inl rfl
   ·exact .inr rfl
theorem Zdy:∀ {l:List AV},ZjO l=true→∀ c∈l,okC c=true
 | [],_,c,hc=>by simp at hc
 | x :: l,h,c,hc=>by
  simp only[ZjO,Bool.and_eq_true] at h
  rcases List.mem_cons.1 hc with rfl | hc
  ·exact h.1
  ·exact Zdy h.2 c hc
theorem ZnZ {g:List Nat} {l:List AV} (h:okV (VO l)=true) (hk:kill g (VO l)=VO l):l.map (ZG g)=l:=by
 rcases Zbm l with ⟨ds,h1,h2⟩ | ⟨h1,h2 | h2⟩
 ·exact Zio h1
 ·rw[h2] at h;cases h
 ·rw[h2] at h hk
  simp only[kill,ZG,AV.agg.injEq] at hk
  simp only[okV] at h
  have hm:=Zdy h
  have hk' : ∀ c∈l,ZQ g c=c:=by
   intro c hc
   have:=ZcK (g:=g) (cs:=l) (by rw[hk];exact h)
   exact Zem (by
    have h3:ZQ g c∈l.map (ZQ g):=List.mem_map_of_mem hc
    rw[hk] at h3
    exact hm _ h3)
  rw[List.map_congr_left (g:=id),List.map_id]
  intro c hc
  exact ZnY (hm c hc) (hk' c hc)
theorem Zn0 {g:List Nat} {l:List AV} (h:okV (VO (l.map (ZG g)))=true):l.map (ZG g)=l:=by
 rcases Zbm (l.map (ZG g)) with ⟨ds,h1,h2⟩ | ⟨h1,h2 | h2⟩
 ·exact ZgE h1
 ·rw[h2] at h;cases h
 ·rw[h2] at h
  simp only[okV] at h
  have hm:=Zdy h
  rw[List.map_congr_left (g:=id),List.map_id]
  intro c hc
  exact JX (Zm2 (hm _ (List.mem_map_of_mem hc)))
theorem Zl6 {g:List Nat} {v:AV} (h:okV v=true) (hk:kill g v=v):ZG g v=v:=by
 cases v with
 | tup vs=>rfl
 | _=>simp only[kill] at hk;exact hk
theorem Zl7 {g:List Nat} {v:AV} (h:okV v=true) (hk:ZG g v=v):kill g v=v:=by
 cases v with
 | tup vs=>
  cases vs with
  | nil=>rfl
  | cons x r=>simp only[okV,okC] at h;cases h
 | _=>simp only[kill];exact hk
theorem Zcp {α β:Type} (f:α→β) (l:List α) (a b:Nat):((l.map f).drop a).take b=((l.drop a).take b).map f:=by
 rw[← List.map_drop,← List.map_take]
theorem Ze9 (g:List Nat) (c:AV):ZdD (ZG g c)=ZG g (ZdD c):=by
 have key:∀ v:AV,(∀ a b,v≠.bbuf a b)→ZdD v=v:=fun v h'=>by cases v<;>first | rfl | exact absurd rfl (h' _ _)
 by_cases h' : ∃ a b,c=.bbuf a b
 ·obtain⟨a,b,rfl⟩:=h';rfl
 ·have h2:∀ a b,c≠.bbuf a b:=fun a b e=>h' ⟨a,b,e⟩
  rw[key c h2,key]
  exact fun a b e=>h2 a b ((Vr g c a b).1 e)
theorem ZkJ {g:List Nat} {cs:List AV} {a:Bool} {s off:Nat} {v:AV} (h:Wz a s off (some (.box cs))=some v) (ho:okV v=true) (hk:kill g v=v):Wz a s off (some (.box (cs.map (ZG g))))=some v:=by
 unfold Wz at h ⊢
 cases a with
 | true=>
  simp only[if_true] at h ⊢
  split at h
  ·rename_i hl
   cases h
   rw[if_pos (by simpa using hl),Zcp,ZnZ ho hk]
  ·cases h
 | false=>
  simp only[Bool.false_eq_true,if_false] at h ⊢
  obtain⟨c,hc,rfl⟩:=Option.map_eq_some_iff.1 h
  rw[List.getElem?_map,hc]
  simp only[Option.map_some]
  rw[Ze9,Zl6 ho hk]
theorem ZkK {g:List Nat} {cs:List AV} {a:Bool} {s off:Nat} {v:AV} (h:Wz a s off (some (.box (cs.map (ZG g))))=some v) (ho:okV v=true):Wz a s off (some (.box cs))=some v∧kill g v=v:=by
 unfold Wz at h ⊢
 cases a with
 | true=>
  simp only[if_true] at h ⊢
  split at h
  ·rename_i hl
   cases h
   rw[Zcp] at ho ⊢
   have he:=Zn0 ho
   rw[he] at ho ⊢
   refine⟨by rw[if_pos (by simpa using hl)],?_⟩
   rcases Zbm ((cs.drop off).take s) with ⟨ds,h1,h2⟩ | ⟨h1,h2 | h2⟩
   ·rw[h2];rfl
   ·rw[h2] at ho;cases ho
   ·rw[h2] at ho ⊢
    simp only[okV] at ho
    have hm:=Zdy ho
    simp only[kill,ZG,AV.agg.injEq]
    rw[List.map_congr_left (g:=id),List.map_id]
    intro c hc
    have h3:ZG g c=c:=by
     refine JX ?_
     have h4:ZG g c∈((cs.drop off).take s).map (ZG g):=List.mem_map_of_mem hc
     rw[he] at h4
     exact Zm2 (hm _ h4)
    have:=hm c hc
    cases c<;>first | exact h3 | cases this
  ·cases h
 | false=>
  simp only[Bool.false_eq_true,if_false] at h ⊢
  rw[List.getElem?_map] at h
  cases hc:cs[off]? with
  | none=>rw[hc] at h;cases h
  | some c=>
   rw[hc] at h
   simp only[Option.map_some,Option.some.injEq] at h
   rw[Ze9] at h
   have h3:ZG g (ZdD c)=ZdD c:=JX (by rw[h];exact ho)
   rw[h3] at h
   subst h
   exact⟨rfl,Zl7 ho h3⟩
theorem Zl8 {g:List Nat} {o o' : Option Zi} (h:UH g o o'):VQ o'=VQ o:=by
 cases o with
 | none=>cases o' with
  | none=>rfl
  | some o'=>cases h
 | some o=>cases o' with
  | none=>cases o<;>cases h
  | some o'=>cases o<;>cases o' <;> simp only[UH] at h<;>first | (cases h;done) | rfl | (obtain⟨rfl,rfl⟩:=h;rfl) | (obtain⟨_,_,rfl,_⟩:=h;rfl)
theorem UI {g:List Nat} {o o' : Option Zi} (h:UH g o o'):(∃ s xs e f e' f',o=some (.row s xs e f)∧o'=some (.row s xs e' f'))∨(o=none∧o'=none)∨(∃ cs,o=some (.box cs)∧o'=some (.box (cs.map (ZG g))))∨(∃ s n xs l,o=some (.deep s n xs l)∧o'=some (.deep s n xs (Zbg g l))):=by
 cases o with
 | none=>cases o' with
  | none=>exact .inr (.inl ⟨rfl,rfl⟩)
  | some o'=>cases h
 | some o=>cases o' with
  | none=>cases o<;>cases h
  | some o' =>
   cases o with
   | box cs=>cases o' with
    | box cs'=>simp only[UH] at h;subst h;exact .inr (.inr (.inl ⟨cs,rfl,rfl⟩))
    | row _ _ _ _=>cases h
    | deep _ _ _ _=>cases h
   | row s xs e f=>cases o' with
    | box cs'=>cases h
    | row s' xs' e' f'=>simp only[UH] at h;obtain⟨rfl,rfl⟩:=h;exact .inl ⟨_,_,_,_,_,_,rfl,rfl⟩
    | deep _ _ _ _=>cases h
   | deep s n xs l=>cases o' with
    | box cs'=>cases h
    | row _ _ _ _=>cases h
    | deep s' n' xs' l'=>simp only[UH] at h;obtain⟨rfl,rfl,rfl,rfl⟩:=h;exact .inr (.inr (.inr ⟨_,_,_,_,rfl,rfl⟩))
section
variable {g:List Nat} {o o' : Option Zi}
theorem Zjs (h:UH g o o') (sz id n:Nat):Jc sz id n o'=Jc sz id n o:=by
 rcases UI h with ⟨s,xs,e,f,e',f',rfl,rfl⟩ | ⟨rfl,rfl⟩ | ⟨cs,rfl,rfl⟩ | ⟨s,n,xs,l,rfl,rfl⟩<;>rfl
theorem ZhQ (h:UH g o o') (sz id off m n:Nat):UM sz id off m n o'=UM sz id off m n o:=by
 rcases UI h with ⟨s,xs,e,f,e',f',rfl,rfl⟩ | ⟨rfl,rfl⟩ | ⟨cs,rfl,rfl⟩ | ⟨s,n,xs,l,rfl,rfl⟩<;>rfl
theorem ZhR (h:UH g o o') (s id:Nat) (lo hi:Option AV):UN s id lo hi o'=UN s id lo hi o:=by
 rcases UI h with ⟨s,xs,e,f,e',f',rfl,rfl⟩ | ⟨rfl,rfl⟩ | ⟨cs,rfl,rfl⟩ | ⟨s,n,xs,l,rfl,rfl⟩<;>rfl
theorem ZgF (h:UH g o o') (s id off n:Nat) (lo hi:Option AV):Wn s id off n lo hi o'=Wn s id off n lo hi o:=by
 rcases UI h with ⟨s,xs,e,f,e',f',rfl,rfl⟩ | ⟨rfl,rfl⟩ | ⟨cs,rfl,rfl⟩ | ⟨s,n,xs,l,rfl,rfl⟩<;>rfl
theorem Zfa {id i off:Nat} {l l' : Option (Nat×Nat×Nat)} {x:D} {v:AV} (h:J3 id i off l x=some v) (ho:okV v=true):J3 id i off l' x=some v∧∃ d,v=.d d:=by
 unfold J3 at h ⊢
 split at h
 ·unfold ZkX at h
  split at h
  ·split at h
   ·cases h;cases ho
   ·cases h
  ·cases h
 ·split at h
  ·rename_i hp;cases h;exact⟨by rw[if_pos hp],_,rfl⟩
  ·cases h
 ·cases h
theorem Zdz {id:Nat} (h:UH g o o') {a:Bool} {s sz i off:Nat} {v:AV} (ho:okV v=true):WA id a s sz i off o'=some v↔WA id a s sz i off o=some v:=by
 rcases UI h with ⟨s,xs,e,f,e',f',rfl,rfl⟩ | ⟨rfl,rfl⟩ | ⟨cs,rfl,rfl⟩ | ⟨s,n,xs,l,rfl,rfl⟩
 ·exact Iff.rfl
 ·exact Iff.rfl
 ·exact Iff.rfl
 ·simp only[WA]
  split
  ·split
   ·exact Iff.rfl
   ·constructor<;>intro hh<;>obtain⟨x,h1,hh⟩:=Za hh<;>rw[h1,Zd]<;>exact(Zfa hh ho).1
  ·exact Iff.rfl
end
section
variable {hp hp' : Hp} {g:List Nat}
def ZdA (g:List Nat) (hp hp' : Hp) (v:AV):Prop:=∀ k∈Zs v,UH g (lkp hp k) (lkp hp' k)
theorem JY {v:AV} (h:ZdA g hp hp' v):Jr hp' v=Jr hp v:=by
 cases v<;>simp only[Jr]
 case d x=>cases x<;>rfl
 case own id=>rw[Zl8 (h id (by simp[Zs,Zu,Zf]))]
theorem WQ {v:AV} (h:ZdA g hp hp' v) (sz n:Nat):Qd hp' sz n v=Qd hp sz n v:=by
 cases v<;>simp only[Qd]
 case d x=>cases x<;>rfl
 case own id=>rw[Zjs (h id (by simp[Zs,Zu,Zf]))]
 case ownv id off n=>rw[ZhQ (h id (by simp[Zs,Zu,Zf]))]
theorem Zbn {v:AV} (h:ZdA g hp hp' v) (s:Nat) (lo hi:Option AV):Yn hp' s lo hi v=Yn hp s lo hi v:=by
 cases v<;>simp only[Yn]
 case d x=>cases x<;>rfl
 case own id=>rw[ZhR (h id (by simp[Zs,Zu,Zf]))]
 case ownv id off n=>rw[ZgF (h id (by simp[Zs,Zu,Zf]))]
theorem Zn1 {x v:AV} (hs:ZdA g hp hp' x) {a:Bool} {s:Nat} (h:Y9 hp a s x=some v) (ho:okV v=true) (hk:kill g v=v):Y9 hp' a s x=some v:=by
 cases x<;>simp only[Y9] at h ⊢ <;> first | (cases h;done) | skip
 case ptr id off=>
  rcases UI (hs id (by simp[Zs,Zu,Zf])) with ⟨_,_,_,_,_,_,e1,e2⟩ | ⟨e1,e2⟩ | ⟨cs,e1,e2⟩ | ⟨_,_,_,_,e1,e2⟩
  ·rw[e1] at h;cases h
  ·rw[e1] at h;cases h
  ·rw[e1] at h;rw[e2];exact ZkJ h ho hk
  ·rw[e1] at h;cases h
 case prow id sz i off=>exact(Zdz (hs id (by simp[Zs,Zu,Zf])) ho).2 h
 case pim cs=>exact h
theorem Zn2 {id:Nat} {a:Bool} {s sz i off:Nat} {o:Option Zi} {v:AV} (h:WA id a s sz i off o=some v) (ho:okV v=true):∃ d,v=.d d:=by
 unfold WA at h
 split at h
 ·split at h
  ·obtain⟨x,_,h⟩:=Za h
   unfold ZdE at h
   split at h
   ·unfold Jv at h
    split at h
    ·split at h
     ·cases h;exact⟨_,rfl⟩
     ·cases h
    ·unfold asD at h
     obtain⟨y,_,h⟩:=Za h
     cases h;exact⟨_,rfl⟩
   ·cases h
  ·cases h
 ·split at h
  ·split at h
   ·cases h
   ·obtain⟨x,_,h⟩:=Za h
    exact(Zfa (l':=none) h ho).2
  ·cases h
 ·cases h
theorem Zpf {a:Bool} {s off:Nat} {cs:List D} {v:AV} (h:Jv a s off cs=some v):∃ d,v=.d d:=by
 unfold Jv at h
 split at h
 ·split at h
  ·cases h;exact⟨_,rfl⟩
  ·cases h
 ·unfold asD at h
  obtain⟨y,_,h⟩:=Za h
  cases h;exact⟨_,rfl⟩
theorem Zn3 {x v:AV} (hs:ZdA g hp hp' x) {a:Bool} {s:Nat} (h:Y9 hp' a s x=some v) (ho:okV v=true):Y9 hp a s x=some v∧kill g v=v:=by
 cases x<;>simp only[Y9] at h ⊢ <;> first | (cases h;done) | skip
 case ptr id off=>
  rcases UI (hs id (by simp[Zs,Zu,Zf])) with ⟨_,_,_,_,_,_,e1,e2⟩ | ⟨e1,e2⟩ | ⟨cs,e1,e2⟩ | ⟨_,_,_,_,e1,e2⟩
  ·rw[e2] at h;cases h
  ·rw[e2] at h;cases h
  ·rw[e2] at h;rw[e1];exact ZkK h ho
  ·rw[e2] at h;cases h
 case prow id sz i off=>
  have h:=(Zdz (hs id (by simp[Zs,Zu,Zf])) ho).1 h
  obtain⟨d,rfl⟩:=Zn2 h ho
  exact⟨h,rfl⟩
 case pim cs=>
  obtain⟨d,rfl⟩:=Zpf h
  exact⟨h,rfl⟩
theorem Zfb {x:AV} {d:D} {e:Bool} (h:W2 hp x=some (d,e,[])) (hp' : Hp):W2 hp' x=some (d,e,[]):=by
 cases x<;>simp only[W2] at h ⊢ <;> first | exact h | skip
 case own id=>obtain⟨q,_,h⟩:=Za h;simp at h
theorem Zfc:∀ {xs:List AV} {d:List D} {e:Bool},Yq hp xs=some (d,e,[])→∀ hp' : Hp,Yq hp' xs=some (d,e,[])
 | [],d,e,h,hp'=>h
 | x :: xs,d,e,h,hp'=>by
  simp only[Yq] at h ⊢
  obtain⟨⟨d1,e1,l1⟩,h1,h⟩:=Za h
  obtain⟨⟨d2,e2,l2⟩,h2,h⟩:=Za h
  have hl:l1=[]∧l2=[]:=by
   simp only at h
   split at h
   ·simp only[Option.some.injEq,Prod.mk.injEq,List.append_eq_nil_iff] at h;exact h.2.2
   ·cases h
  obtain⟨rfl,rfl⟩:=hl
  rw[Zfb h1 hp',Zd,Zfc h2 hp',Zd]
  exact h
theorem Zl9 {x:AV} {d:D} {e:Bool} (h:give hp x=some (d,e,[])) (hp' : Hp):give hp' x=some (d,e,[]):=by
 cases x<;>simp only[give] at h ⊢ <;> first | exact Zfb h hp' | skip
 case agg cs=>
  obtain⟨⟨d1,e1,l1⟩,h1,h⟩:=Za h
  simp only[Option.some.injEq,Prod.mk.injEq] at h
  obtain⟨rfl,rfl,rfl⟩:=h
  rw[Zfc h1 hp',Zd]
theorem Zcq:∀ {xs:List AV} {d:List D} {e:Bool},YS hp xs=some (d,e,[])→∀ hp' : Hp,YS hp' xs=some (d,e,[])
 | [],d,e,h,hp'=>h
 | x :: xs,d,e,h,hp'=>by
  simp only[YS] at h ⊢
  obtain⟨⟨d1,e1,l1⟩,h1,h⟩:=Za h
  obtain⟨⟨d2,e2,l2⟩,h2,h⟩:=Za h
  have hl:l1=[]∧l2=[]:=by
   simp only at h
   split at h
   ·simp only[Option.some.injEq,Prod.mk.injEq,List.append_eq_nil_iff] at h;exact h.2.2
   ·cases h
  obtain⟨rfl,rfl⟩:=hl
  rw[Zl9 h1 hp',Zd,Zcq h2 hp',Zd]
  exact h
theorem Zcr {base s:Nat} {vs:List AV} {ce:Zb} (h:buildSl hp base s vs=some ce) (hf:ce.eff.frz=[]) (hp' : Hp) :
  buildSl hp' base s vs=some ce∧(ce.eff.val=.nil∨ce.eff.val=.own base)∧(∀ k o,(k,o)∈ce.eff.adds→∃ sz xs e f,o=.row sz xs e f):=by
 cases vs with
 | nil=>simp only[buildSl,Ql] at h ⊢;cases h;exact⟨rfl,.inl rfl,fun k o h=>by simp at h⟩
 | cons v vs=>
  simp only[buildSl] at h ⊢
  obtain⟨⟨ds,e,l⟩,h1,h⟩:=Za h
  unfold Zml at h
  split at h
  ·rename_i hc
   cases h
   simp only at hf
   subst hf
   rw[Zcq h1 hp',Zd]
   refine⟨?_,.inr rfl,fun k o ho=>?_⟩
   ·unfold Zml;rw[if_pos hc]
   ·simp at ho;obtain⟨rfl,rfl⟩:=ho;exact⟨_,_,_,_,rfl⟩
  ·cases h
end
theorem ZdB {C:Orc} {M:Zj} {sl:Sl} {hp hp' : Hp} {base:Nat} {c:COp} (hc:YH c=true):vop C M sl hp base c=vop C M sl hp' base c:=by
 cases c<;>first | rfl | (simp[YH] at hc)
section
variable {C:Orc} {M:Zj} {sl sl' : Sl} {hp hp' : Hp} {base:Nat} {g:List Nat}
theorem ZW {v:AV} {ce:Zb} (h:Ql v=some ce):ce.eff.adds=[]:=by cases h;rfl
theorem Qp {v:Option AV} {ce:Zb} (h:Yf v=some ce):ce.eff.adds=[]:=by obtain⟨v,_,h⟩:=Za h;exact ZW h
theorem WL {v:Option AV} {ce:Zb} (h:Yf v=some ce):v=some ce.eff.val:=by obtain⟨v,rfl,h⟩:=Za h;cases h;rfl
theorem Zm4 {v:Option AV} {ce:Zb} {w:Option AV} (h:Yf v=some ce) (hw:w=some ce.eff.val):Yf w=some ce:=by
 obtain⟨v,rfl,h⟩:=Za h;cases h;rw[hw];rfl
theorem Zma {c:COp} (hc:YH c=true) (hv:Zmv c=true) {ce:Zb} (h:vop C M sl hp base c=some ce):ce.eff.adds=[]:=by
 cases c<;>simp only[YH,Zmv,Bool.false_eq_true] at hc hv<;>simp only[vop] at h
 case stuck=>cases h
 case move x=>exact ZW h
 case pick c a b=>
  unfold Za2 at h
  split at h
  ·split at h<;>exact ZW h
  ·cases h
 case build zs ps=>obtain⟨cs,_,h⟩:=Za h;exact ZW h
 case nilCheck x=>unfold VY at h;split at h<;>first | exact ZW h | cases h
 case bin op eq x y=>
  unfold ZfB at h
  split at h
  ·split at h
   ·exact Qp h
   ·cases h
  ·exact Qp h
 case un op x=>exact Qp h
 case eqA neg n x y=>
  unfold ZhU at h
  split at h
  ·obtain⟨r,_,h⟩:=Za h;exact ZW h
  ·cases h
 case convI k x=>unfold Go.Abs.convI at h;split at h<;>first | exact ZW h | cases h
 case convS x=>unfold Go.Abs.convS at h;split at h<;>first | exact ZW h | cases h
 case sliceS x lo hi=>exact Qp h
 case shift off x=>unfold X9 at h;split at h<;>first | exact ZW h | cases h
 case part g s off x=>exact Qp h
 case iaA len s x i=>
  obtain⟨n,_,h⟩:=Za h
  unfold Zfi at h
  split at h
  ·unfold X9 at h;split at h<;>first | exact ZW h | cases h
  ·cases h
 case ixS x i=>
  obtain⟨n,_,h⟩:=Za h
  unfold Zk0 at h
  split at h
  ·unfold ZiC at h
   split at h
   ·obtain⟨b,_,h⟩:=Za h;exact ZW h
   ·cases h
  ·cases h
 case ixA g s len x i=>
  obtain⟨n,_,h⟩:=Za h
  unfold Zmm at h
  split at h
  ·exact Qp h
  ·cases h
 case nth i x=>unfold ZjB at h;split at h<;>first | exact Qp h | cases h
 case lenS x=>obtain⟨n,_,h⟩:=Za h;exact ZW h
 case min x y=>unfold ZdI at h;split at h<;>first | (split at h<;>first | exact ZW h | cases h) | cases h
 case max x y=>unfold ZdJ at h;split at h<;>first | (split at h<;>first | exact ZW h | cases h) | cases h
theorem Zfd {c:AV} (h:Jz c=true):ZG g c=c:=by cases c<;>first | rfl | cases h
theorem Zax:∀ {cs:List AV},Yh cs=true→∀ c∈cs,Jz c=true
 | [],_,c,hc=>by simp at hc
 | x :: l,h,c,hc=>by
  simp only[Yh,Bool.and_eq_true] at h
  rcases List.mem_cons.1 hc with rfl | hc
  ·exact h.1
  ·exact Zax h.2 c hc
theorem Zen:∀ (slc:List (Option Nat)) (cs:List AV) (b:Nat),(∀ c∈(mat slc cs b).1,c∈cs∨∃ k o,c=.own k∧(k,o)∈(mat slc cs b).2)∧∀ k o,(k,o)∈(mat slc cs b).2→∃ sz,o=.row sz [] true false
 | [],cs,b=>by simp only[mat];exact⟨fun c hc=>.inl hc,fun k o h=>by simp at h⟩
 | t :: ts,[],b=>by cases t<;>(simp only[mat];exact⟨fun c hc=>.inl hc,fun k o h=>by simp at h⟩)
 | t :: ts,v :: vs,b=>by
  by_cases hv:(∃ sz,t=some sz)∧v=.nil
  ·obtain⟨⟨sz,rfl⟩,rfl⟩:=hv
   obtain⟨h1,h2⟩:=Zen ts vs (b+1)
   simp only[mat]
   refine⟨fun c hc=>?_,fun k o h=>?_⟩
   ·rcases List.mem_cons.1 hc with rfl | hc
    ·exact .inr ⟨b,_,rfl,List.mem_cons_self ..⟩
    ·rcases h1 c hc with h | ⟨k,o,e,h⟩
     ·exact .inl (List.mem_cons_of_mem _ h)
     ·exact .inr ⟨k,o,e,List.mem_cons_of_mem _ h⟩
   ·rcases List.mem_cons.1 h with h | h
    ·cases h;exact⟨_,rfl⟩
    ·exact h2 k o h
  ·obtain⟨h1,h2⟩:=Zen ts vs b
   have e:mat (t :: ts) (v :: vs) b=(v :: (mat ts vs b).1,(mat ts vs b).2):=by
    cases t with
    | none=>simp[mat]
    | some sz=>cases v<;>first | (exact absurd ⟨⟨sz,rfl⟩,rfl⟩ hv) | simp[mat]
   rw[e]
   refine⟨fun c hc=>?_,h2⟩
   rcases List.mem_cons.1 hc with rfl | hc
   ·exact .inl (List.mem_cons_self ..)
   ·rcases h1 c hc with h | h
    ·exact .inl (List.mem_cons_of_mem _ h)
    ·exact .inr h
theorem Zip {base:Nat}:∀ {cs:List AV},Yh cs=true→cs.map (ZcQ base)=cs
 | [],_=>rfl
 | c :: cs,h=>by
  simp only[Yh,Bool.and_eq_true] at h
  rw[List.map_cons,Zip h.2]
  congr 1
  cases c<;>first | rfl | (simp[Jz] at h)
theorem Ziq:∀ {cs:List AV},Yh cs=true→Q1 cs=true
 | [],_=>rfl
 | c :: cs,h=>by
  simp only[Yh,Bool.and_eq_true] at h
  have:=Ziq h.2
  cases c<;>first | exact this | (simp[Jz] at h)
theorem Zfe {slc:List (Option Nat)} {cs:List AV} {ce:Zb} (hb:∀ k,base≤k→k<base+64→k∉g) (hc:Yh cs=true) (h:ZaA slc base cs=some ce) (hok:Qs base (base+64) ce.eff.adds=true) :
  (∀ id∈Zs ce.eff.val,id∉g)∧∀ k o,(k,o)∈ce.eff.adds→Q2 g o=o:=by
 have hr:=YV hok
 unfold ZaA at h
 rw[Zip hc] at h
 unfold Zes at h
 rw[if_neg (by rw[Ziq hc];decide)] at h
 split at h
 ·cases h
  simp only at hr ⊢
  obtain⟨h1,h2⟩:=Zen slc cs (base+1)
  refine⟨fun id hid=>?_,fun k o hm=>?_⟩
  ·simp[Zs,Zu,Zf] at hid;subst hid;exact hb _ (Nat.le_refl _) (by omega)
  ·rcases List.mem_cons.1 hm with hm | hm
   ·cases hm
    simp only[Q2]
    congr 1
    rw[List.map_congr_left (g:=id),List.map_id]
    intro c hcm
    rcases h1 c hcm with h | ⟨k,o,rfl,h⟩
    ·exact Zfd (Zax hc c h)
    ·have:=hr k o (List.mem_cons_of_mem _ h)
     have hk:=hb k this.1 this.2
     simp[ZG,ZQ,hk]
   ·obtain⟨sz,rfl⟩:=h2 k o hm;rfl
 ·cases h
  simp only at hr ⊢
  refine⟨fun id hid=>?_,fun k o hm=>?_⟩
  ·simp[Zs,Zu,Zf] at hid;subst hid;exact hb _ (Nat.le_refl _) (by omega)
  ·simp at hm
   obtain⟨rfl,rfl⟩:=hm
   simp only[Q2]
   congr 1
   rw[List.map_congr_left (g:=id),List.map_id]
   exact fun c hcm=>Zfd (Zax hc c hcm)
theorem Zn4 {c:COp} (hc:Zg8 c=true) (he:∀ x∈ZB c,evO sl' x=evO sl x) (hs:∀ x∈ZB c,ZdA g hp hp' (evO sl x)) {ce:Zb}
  (hb:∀ k,base≤k→k<base+64→k∉g) (h:vop C M sl hp base c=some ce) (hok:Qs base (base+64) ce.eff.adds=true) (hfz:ce.eff.frz=[]) (ho:okV ce.eff.val=true) (hk:kill g ce.eff.val=ce.eff.val):vop C M sl' hp' base c=some ce∧∀ k o,(k,o)∈ce.eff.adds→Q2 g o=o:=by
 rw[QM C M hp' base he]
 have none0:ce.eff.adds=[]→∀ k o,(k,o)∈ce.eff.adds→Q2 g o=o:=fun e k o hm=>by rw[e] at hm;simp at hm
 simp only[Zg8,Bool.or_eq_true,Bool.and_eq_true] at hc
 rcases hc with ((hc | hc) | ⟨hc1,hc2⟩) | hc
 ·cases c<;>simp only[V1,Bool.false_eq_true] at hc<;>simp only[vop] at h ⊢ <;> simp only[ZB] at hs
  case load a s x=>exact⟨Zm4 h (Zn1 (hs x (by simp)) (WL h) ho hk),none0 (Qp h)⟩
  case slice s x lo hi=>
   rw[Zbn (hs x (by simp))]
   exact⟨h,none0 (Qp h)⟩
  case slice0 x hi mx=>
   unfold slice0 at h ⊢
   rw[JY (hs x (by simp))]
   exact⟨h,none0 (Qp h)⟩
  case iaS s x i=>
   obtain⟨n,h1,h⟩:=Za h
   rw[h1,Zd]
   unfold Zbw at h ⊢
   rw[WQ (hs x (by simp))]
   refine⟨h,none0 ?_⟩
   split at h
   ·exact Qp h
   ·cases h
  case len x=>
   rw[JY (hs x (by simp))]
   refine⟨h,none0 ?_⟩
   obtain⟨n,_,h⟩:=Za h;exact ZW h
 ·cases c<;>simp only[ZiI,Bool.false_eq_true] at hc
  simp only[vop] at h ⊢
  obtain⟨h1,h2,h3⟩:=Zcr h hfz hp'
  refine⟨h1,fun k o hm=>?_⟩
  obtain⟨sz,xs,e,f,rfl⟩:=h3 k o hm
  rfl
 ·rw[← ZdB (hp:=hp) hc1]
  exact⟨h,none0 (Zma hc1 hc2 h)⟩
 ·cases c<;>simp only[ZfN,Bool.false_eq_true] at hc
  simp only[vop] at h ⊢
  exact⟨h,(Zfe hb hc h hok).2⟩
theorem Zmb {c:COp} (hc:ZdP c=true) (he:∀ x∈ZB c,evO sl' x=evO sl x) (hs:∀ x∈ZB c,ZdA g hp hp' (evO sl x)) {ce:Zb}
  (hn:∀ x∈ZB c,∀ id∈Zs (evO sl x),id∉g) (hb:∀ k,base≤k→k<base+64→k∉g)
  (h:vop C M sl' hp' base c=some ce) (hok:Qs base (base+64) ce.eff.adds=true) (hfz:ce.eff.frz=[]) (ho:okV ce.eff.val=true):vop C M sl hp base c=some ce∧kill g ce.eff.val=ce.eff.val∧∀ k o,(k,o)∈ce.eff.adds→Q2 g o=o:=by
 rw[QM C M hp' base he] at h
 have none0:ce.eff.adds=[]→∀ k o,(k,o)∈ce.eff.adds→Q2 g o=o:=fun e k o hm=>by rw[e] at hm;simp at hm
 have names:(∀ id∈Zs ce.eff.val,id∉g)→kill g ce.eff.val=ce.eff.val:=Zm3 ho
 cases c<;>simp only[ZdP,Bool.false_eq_true] at hc<;>simp only[vop] at h ⊢ <;> simp only[ZB] at hs hn
 case alloc slc cs=>
  obtain⟨h1,h2⟩:=Zfe hb hc h hok
  exact⟨h,names h1,h2⟩
 case buildSl s xs=>
  obtain⟨h1,h2,h3⟩:=Zcr h hfz hp
  refine⟨h1,names fun id hid=>?_,fun k o hm=>?_⟩
  ·rcases h2 with h2 | h2
   ·rw[h2] at hid;simp[Zs,Zu,Zf] at hid
   ·rw[h2] at hid;simp[Zs,Zu,Zf] at hid;subst hid;exact hb _ (Nat.le_refl _) (by omega)
  ·obtain⟨sz,xs,e,f,rfl⟩:=h3 k o hm
   rfl
 case load a s x=>
  obtain⟨h1,h2⟩:=Zn3 (hs x (by simp)) (WL h) ho
  exact⟨Zm4 h h1,h2,none0 (Qp h)⟩
 case nilCheck x=>
  have hx:=hn x (by simp)
  refine⟨h,names ?_,none0 ?_⟩
  ·unfold VY at h
   split at h<;>rename_i hv<;>first | (cases h;done) | (cases h;show ∀ id∈Zs _,_;rw[← hv];exact hx)
  ·unfold VY at h;split at h<;>first | exact ZW h | cases h
 case bin op eq x y=>
  have hd:∃ d,ce.eff.val=.d d:=by
   have o2:∀ {a b:AV},Yf (vbin op a b)=some ce→∃ d,ce.eff.val=.d d:=fun {a b} h=>by
    have h1:=WL h
    unfold vbin at h1
    split at h1
    ·unfold Wh at h1
     split at h1
     ·obtain⟨y,_,h1⟩:=Za h1;exact⟨_,(Option.some.inj h1).symm⟩
     ·obtain⟨y,_,h1⟩:=Za h1;exact⟨_,(Option.some.inj h1).symm⟩
     ·split at h1
      ·obtain⟨y,_,h1⟩:=Za h1
       have:=Option.some.inj h1
       exact⟨_,this.symm⟩
      ·cases h1
    ·obtain⟨y,_,h1⟩:=Za h1
     have:=Option.some.inj h1
     exact⟨_,this.symm⟩
    ·cases h1
   unfold ZfB at h
   split at h
   ·split at h
    ·have h1:=WL h
     unfold Zh9 at h1
     split at h1
     ·exact⟨_,(Option.some.inj h1).symm⟩
     ·exact⟨_,(Option.some.inj h1).symm⟩
     ·cases h1
    ·cases h
   ·exact o2 h
  obtain⟨d,hd⟩:=hd
  refine⟨h,by rw[hd];rfl,none0 ?_⟩
  unfold ZfB at h
  split at h
  ·split at h
   ·exact Qp h
   ·cases h
  ·exact Qp h
 case un op x=>
  have hd:∃ d,ce.eff.val=.d d:=by
   have h1:=WL h
   unfold vun at h1
   split at h1
   ·unfold neg1 at h1
    split at h1
    ·exact⟨_,(Option.some.inj h1).symm⟩
    ·cases h1
   ·unfold not1 at h1
    split at h1
    ·exact⟨_,(Option.some.inj h1).symm⟩
    ·cases h1
   ·cases h1
  obtain⟨d,hd⟩:=hd
  exact⟨h,by rw[hd];rfl,none0 (Qp h)⟩
 case convI k x=>
  unfold Go.Abs.convI at h ⊢
  split at h
  ·exact⟨h,by cases h;rfl,none0 (ZW h)⟩
  ·cases h
 case shift off x=>
  have hx:=hn x (by simp)
  refine⟨h,names ?_,none0 ?_⟩
  ·unfold X9 at h
   split at h<;>rename_i hv<;>first | (cases h;done) | skip
   ·cases h;rw[hv] at hx;simpa [Zs,Zu,Zf] using hx
   ·cases h;rw[hv] at hx;simpa [Zs,Zu,Zf] using hx
   ·cases h;simp[Zs,Zu,Zf]
  ·unfold X9 at h;split at h<;>first | exact ZW h | cases h
 case slice s x lo hi=>
  have hx:=hn x (by simp)
  rw[Zbn (hs x (by simp))] at h
  refine⟨h,names ?_,none0 (Qp h)⟩
  have h1:=WL h
  cases hv:evO sl x<;>rw[hv] at h1 hx<;>simp only[Yn] at h1<;>first | (cases h1;done) | skip
  case d y=>
   cases y<;>simp only[Yn] at h1<;>first | (cases h1;done) | skip
   split at h1
   ·obtain⟨b,_,h1⟩:=Za h1;rw[← Option.some.inj h1];simp[Zs,Zu,Zf]
   ·cases h1
  case nil=>obtain⟨b,_,h1⟩:=Za h1;rw[← Option.some.inj h1];simp[Zs,Zu,Zf]
  case own id=>
   unfold UN at h1
   split at h1
   ·split at h1
    ·unfold ZkZ at h1
     split at h1
     ·rw[← Option.some.inj h1];exact hx
     ·obtain⟨b,_,h1⟩:=Za h1;rw[← Option.some.inj h1];simpa [Zs,Zu,Zf] using hx
    ·cases h1
   ·cases h1
  case ownv id off n=>
   unfold Wn at h1
   split at h1
   ·split at h1
    ·obtain⟨b,_,h1⟩:=Za h1;rw[← Option.some.inj h1];simpa [Zs,Zu,Zf] using hx
    ·cases h1
   ·cases h1
 case sliceS x lo hi=>
  have hd:∃ d,ce.eff.val=.d d:=by
   have h1:=WL h
   unfold sliceS at h1
   split at h1
   ·obtain⟨b,_,h1⟩:=Za h1;exact⟨_,(Option.some.inj h1).symm⟩
   ·cases h1
  obtain⟨d,hd⟩:=hd
  exact⟨h,by rw[hd];rfl,none0 (Qp h)⟩
 case lenS x=>
  obtain⟨n,h1,h⟩:=Za h
  refine⟨by rw[h1,Zd];exact h,by cases h;rfl,none0 (ZW h)⟩
 case iaS s x i=>
  have hx:=hn x (by simp)
  obtain⟨n,h1,h⟩:=Za h
  rw[h1,Zd]
  unfold Zbw at h ⊢
  rw[WQ (hs x (by simp))] at h
  refine⟨h,names ?_,none0 ?_⟩
  ·split at h
   ·have h1:=WL h
    cases hv:evO sl x<;>rw[hv] at h1 hx<;>simp only[Qd] at h1<;>first | (cases h1;done) | skip
    case d y=>
     cases y<;>simp only[Qd] at h1<;>first | (cases h1;done) | skip
     obtain⟨b,_,h1⟩:=Za h1
     unfold Znc at h1
     split at h1
     ·rw[← Option.some.inj h1];simp[Zs,Zu,Zf]
     ·cases h1
    case own id=>
     unfold Jc at h1
     split at h1
     ·split at h1
      ·rw[← Option.some.inj h1];simpa [Zs,Zu,Zf] using hx
      ·cases h1
     ·split at h1
      ·rw[← Option.some.inj h1];simpa [Zs,Zu,Zf] using hx
      ·cases h1
     ·cases h1
    case ownv id off n=>
     unfold UM at h1
     split at h1
     ·split at h1
      ·rw[← Option.some.inj h1];simpa [Zs,Zu,Zf] using hx
      ·cases h1
     ·cases h1
   ·cases h
  ·split at h
   ·exact Qp h
   ·cases h
 case len x=>
  rw[JY (hs x (by simp))] at h
  obtain⟨n,h1,h2⟩:=Za h
  exact⟨h,by cases h2;rfl,none0 (ZW h2)⟩
end
end Go.Abs
