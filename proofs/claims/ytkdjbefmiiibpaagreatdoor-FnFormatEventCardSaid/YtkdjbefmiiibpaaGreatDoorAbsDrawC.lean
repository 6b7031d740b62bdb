/- The abstract semantics: calls in regions that draw. Own text. -/
import Derived.Test.YtkdjbefmiiibpaaGreatDoorAbsDraw3
import Derived.Test.YtkdjbefmiiibpaaGreatDoorAbsSound5
set_option linter.unusedVariables false
set_option linter.unusedSimpArgs false
namespace Go.Abs
open Go
theorem ZuG {v:AV} (h:okC v=true):okV v=true:=by
 cases v<;>first | exact h | cases h
theorem Zi3 {g:List Nat} {v:AV} (h:okC (Qk g v)=true):Qk g v=v:=by
 cases v<;>simp only[Qk] at h ⊢ <;> first | rfl | (split at h<;>rename_i h' <;> first | (cases h;done) | rw[if_neg h'])
theorem Zg0 {g:List Nat}:∀ {cs:List AV},ZqJ (cs.map (Qk g))=true→cs.map (Qk g)=cs
 | [],_=>rfl
 | c :: cs,h=>by
  simp only[List.map_cons,ZqJ,Bool.and_eq_true] at h ⊢
  rw[Zi3 h.1,Zg0 h.2]
theorem Zdp {g:List Nat} {v:AV} (h:okV (Z0 g v)=true):Z0 g v=v:=by
 cases v with
 | agg cs=>simp only[Z0,okV] at h ⊢;rw[Zg0 h]
 | clo f cs=>simp only[Z0,okV,okC] at h;cases h
 | tup vs=>rfl
 | _=>
  simp only[Z0] at h ⊢
  refine Zi3 ?_
  revert h
  simp only[Qk]
  first | exact id | (split<;>first | exact id | (intro h;cases h))
theorem Zb3 {g:List Nat} {v:AV} (h:okV (kill g v)=true):kill g v=v:=by
 cases v with
 | tup vs=>
  cases vs with
  | nil=>rfl
  | cons x r=>simp only[kill,List.map_cons,okV,okC] at h;cases h
 | _=>simp only[kill] at h ⊢;exact Zdp h
theorem ZrZ {g:List Nat} {v:AV} (hn:∀ id∈Zm v,id∉g):Qk g v=v:=by
 cases v<;>simp only[Qk]<;>first | rfl | (rw[if_neg];simpa [Zm] using hn)
theorem ZuH {g:List Nat} {v:AV} (h:okV v=true) (hn:∀ id∈ZF v,id∉g):kill g v=v:=by
 cases v with
 | tup vs=>
  cases vs with
  | nil=>rfl
  | cons x r=>simp only[okV,okC] at h;cases h
 | clo f cs=>simp only[okV,okC] at h;cases h
 | agg cs=>
  simp only[kill,Z0]
  congr 1
  rw[List.map_congr_left (g:=id),List.map_id]
  intro c hc
  exact ZrZ fun id hid=>hn id (by simp only[ZF,ZG,List.mem_flatMap];exact⟨c,hc,hid⟩)
 | _=>simp only[kill,Z0];exact ZrZ hn
theorem ZxK {g:List Nat} {v:AV} (h:kill g v=v):∀ id∈ZF v,id∉g:=fun id hid=>(ZiZ g v id (by rw[h];exact hid)).2
theorem ZvQ {g:List Nat} {c:AV} (h:okC c=true) (h1:Qk g c=c):Z0 g c=c:=by
 cases c<;>simp only[Z0]<;>first | exact h1 | cases h
def Zb4 (g:List Nat):Option Zl→Option Zl→Prop
 | none,none=>True
 | some (.row s xs _ _),some (.row s' xs' _ _)=>s'=s∧xs'=xs
 | some (.box cs),some (.box cs')=>cs'=cs.map (Z0 g)
 | some (.deep s n xs l),some (.deep s' n' xs' l')=>s'=s∧n'=n∧xs'=xs∧l'=Ze8 g l
 | _,_=>False
theorem Zr0 {g:List Nat} {b:Bool} (o:Option Zl):Zb4 g o ((o.map (X8 g)).map fun o=>if b then VR o else o):=by
 cases o with
 | none=>trivial
 | some o=>cases o<;>cases b<;>exact(by first | exact⟨rfl,rfl⟩ | exact rfl | exact⟨rfl,rfl,rfl,rfl⟩)
theorem ZoP {g:List Nat}:∀ {l:List AV} {ds:List D},Zd0 l=some ds→l.map (Z0 g)=l
 | [],ds,_=>rfl
 | v :: l,ds,h=>by
  simp only[Zd0] at h
  obtain⟨x,h1,h⟩:=Za h
  obtain⟨ds',h2,h⟩:=Za h
  have:Z0 g v=v:=by cases v<;>first | rfl | cases h1
  rw[List.map_cons,this,ZoP h2]
theorem Zmf {g:List Nat}:∀ {l:List AV} {ds:List D},Zd0 (l.map (Z0 g))=some ds→l.map (Z0 g)=l
 | [],ds,_=>rfl
 | v :: l,ds,h=>by
  simp only[List.map_cons,Zd0] at h
  obtain⟨x,h1,h⟩:=Za h
  obtain⟨ds',h2,h⟩:=Za h
  have hv:Z0 g v=v:=by
   refine Zdp ?_
   cases hk:Z0 g v<;>rw[hk] at h1<;>first | rfl | cases h1
  rw[List.map_cons,hv,Zmf h2]
theorem Zfe (l:List AV):(∃ ds,Zd0 l=some ds∧JR l=.d (.agg ds))∨(Zd0 l=none∧(JR l=.junk∨JR l=.agg l)):=by
 unfold JR
 cases h:Zd0 l with
 | some ds=>exact .inl ⟨ds,rfl,rfl⟩
 | none=>
  refine .inr ⟨rfl,?_⟩
  unfold UX
  split
  ·rename_i h;cases h
  ·split
   ·exact .inl rfl
   ·exact .inr rfl
theorem ZhZ:∀ {l:List AV},ZqJ l=true→∀ c∈l,okC c=true
 | [],_,c,hc=>by simp at hc
 | x :: l,h,c,hc=>by
  simp only[ZqJ,Bool.and_eq_true] at h
  rcases List.mem_cons.1 hc with rfl | hc
  ·exact h.1
  ·exact ZhZ h.2 c hc
theorem ZvR {g:List Nat} {l:List AV} (h:okV (JR l)=true) (hk:kill g (JR l)=JR l):l.map (Z0 g)=l:=by
 rcases Zfe l with ⟨ds,h1,h2⟩ | ⟨h1,h2 | h2⟩
 ·exact ZoP h1
 ·rw[h2] at h;cases h
 ·rw[h2] at h hk
  simp only[kill,Z0,AV.agg.injEq] at hk
  simp only[okV] at h
  have hm:=ZhZ h
  have hk' : ∀ c∈l,Qk g c=c:=by
   intro c hc
   have:=Zg0 (g:=g) (cs:=l) (by rw[hk];exact h)
   exact Zi3 (by
    have h3:Qk g c∈l.map (Qk g):=List.mem_map_of_mem hc
    rw[hk] at h3
    exact hm _ h3)
  rw[List.map_congr_left (g:=id),List.map_id]
  intro c hc
  exact ZvQ (hm c hc) (hk' c hc)
theorem ZvS {g:List Nat} {l:List AV} (h:okV (JR (l.map (Z0 g)))=true):l.map (Z0 g)=l:=by
 rcases Zfe (l.map (Z0 g)) with ⟨ds,h1,h2⟩ | ⟨h1,h2 | h2⟩
 ·exact Zmf h1
 ·rw[h2] at h;cases h
 ·rw[h2] at h
  simp only[okV] at h
  have hm:=ZhZ h
  rw[List.map_congr_left (g:=id),List.map_id]
  intro c hc
  exact Zdp (ZuG (hm _ (List.mem_map_of_mem hc)))
theorem Ztz {g:List Nat} {v:AV} (h:okV v=true) (hk:kill g v=v):Z0 g v=v:=by
 cases v with
 | tup vs=>rfl
 | _=>simp only[kill] at hk;exact hk
theorem ZtA {g:List Nat} {v:AV} (h:okV v=true) (hk:Z0 g v=v):kill g v=v:=by
 cases v with
 | tup vs=>
  cases vs with
  | nil=>rfl
  | cons x r=>simp only[okV,okC] at h;cases h
 | _=>simp only[kill];exact hk
theorem ZgC {α β:Type} (f:α→β) (l:List α) (a b:Nat):((l.map f).drop a).take b=((l.drop a).take b).map f:=by
 rw[← List.map_drop,← List.map_take]
theorem ZjO (g:List Nat) (c:AV):Zh5 (Z0 g c)=Z0 g (Zh5 c):=by
 have key:∀ v:AV,(∀ a b,v≠.bbuf a b)→Zh5 v=v:=fun v h'=>by cases v<;>first | rfl | exact absurd rfl (h' _ _)
 by_cases h' : ∃ a b,c=.bbuf a b
 ·obtain⟨a,b,rfl⟩:=h';rfl
 ·have h2:∀ a b,c≠.bbuf a b:=fun a b e=>h' ⟨a,b,e⟩
  rw[key c h2,key]
  exact fun a b e=>h2 a b ((Je g c a b).1 e)
theorem Zr1 {g:List Nat} {cs:List AV} {a:Bool} {s off:Nat} {v:AV} (h:ZaE a s off (some (.box cs))=some v) (ho:okV v=true) (hk:kill g v=v):ZaE a s off (some (.box (cs.map (Z0 g))))=some v:=by
 unfold ZaE at h ⊢
 cases a with
 | true=>
  simp only[if_true] at h ⊢
  split at h
  ·rename_i hl
   cases h
   rw[if_pos (by simpa using hl),ZgC,ZvR ho hk]
  ·cases h
 | false=>
  simp only[Bool.false_eq_true,if_false] at h ⊢
  obtain⟨c,hc,rfl⟩:=Option.map_eq_some_iff.1 h
  rw[List.getElem?_map,hc]
  simp only[Option.map_some]
  rw[ZjO,Ztz ho hk]
theorem Zr2 {g:List Nat} {cs:List AV} {a:Bool} {s off:Nat} {v:AV} (h:ZaE a s off (some (.box (cs.map (Z0 g))))=some v) (ho:okV v=true):ZaE a s off (some (.box cs))=some v∧kill g v=v:=by
 unfold ZaE at h ⊢
 cases a with
 | true=>
  simp only[if_true] at h ⊢
  split at h
  ·rename_i hl
   cases h
   rw[ZgC] at ho ⊢
   have he:=ZvS ho
   rw[he] at ho ⊢
   refine⟨by rw[if_pos (by simpa using hl)],?_⟩
   rcases Zfe ((cs.drop off).take s) with ⟨ds,h1,h2⟩ | ⟨h1,h2 | h2⟩
   ·rw[h2];rfl
   ·rw[h2] at ho;cases ho
   ·rw[h2] at ho ⊢
    simp only[okV] at ho
    have hm:=ZhZ ho
    simp only[kill,Z0,AV.agg.injEq]
    rw[List.map_congr_left (g:=id),List.map_id]
    intro c hc
    have h3:Z0 g c=c:=by
     refine Zdp ?_
     have h4:Z0 g c∈((cs.drop off).take s).map (Z0 g):=List.mem_map_of_mem hc
     rw[he] at h4
     exact ZuG (hm _ h4)
    have:=hm c hc
    cases c<;>first | exact h3 | cases this
  ·cases h
 | false=>
  simp only[Bool.false_eq_true,if_false] at h ⊢
  rw[List.getElem?_map] at h
  cases hc:cs[off]? with
  | none=>rw[hc] at h;cases h
  | some c=>
   rw[hc] at h
   simp only[Option.map_some,Option.some.injEq] at h
   rw[ZjO] at h
   have h3:Z0 g (Zh5 c)=Zh5 c:=Zdp (by rw[h];exact ho)
   rw[h3] at h
   subst h
   exact⟨rfl,ZtA ho h3⟩
theorem ZtB {g:List Nat} {o o' : Option Zl} (h:Zb4 g o o'):JS o'=JS o:=by
 cases o with
 | none=>cases o' with
  | none=>rfl
  | some o'=>cases h
 | some o=>cases o' with
  | none=>cases o<;>cases h
  | some o'=>cases o<;>cases o' <;> simp only[Zb4] at h<;>first | (cases h;done) | rfl | (obtain⟨rfl,rfl⟩:=h;rfl) | (obtain⟨_,_,rfl,_⟩:=h;rfl)
theorem Zb5 {g:List Nat} {o o' : Option Zl} (h:Zb4 g o o'):(∃ s xs e f e' f',o=some (.row s xs e f)∧o'=some (.row s xs e' f'))∨(o=none∧o'=none)∨(∃ cs,o=some (.box cs)∧o'=some (.box (cs.map (Z0 g))))∨(∃ s n xs l,o=some (.deep s n xs l)∧o'=some (.deep s n xs (Ze8 g l))):=by
 cases o with
 | none=>cases o' with
  | none=>exact .inr (.inl ⟨rfl,rfl⟩)
  | some o'=>cases h
 | some o=>cases o' with
  | none=>cases o<;>cases h
  | some o' =>
   cases o with
   | box cs=>cases o' with
    | box cs'=>simp only[Zb4] at h;subst h;exact .inr (.inr (.inl ⟨cs,rfl,rfl⟩))
    | row _ _ _ _=>cases h
    | deep _ _ _ _=>cases h
   | row s xs e f=>cases o' with
    | box cs'=>cases h
    | row s' xs' e' f'=>simp only[Zb4] at h;obtain⟨rfl,rfl⟩:=h;exact .inl ⟨_,_,_,_,_,_,rfl,rfl⟩
    | deep _ _ _ _=>cases h
   | deep s n xs l=>cases o' with
    | box cs'=>cases h
    | row _ _ _ _=>cases h
    | deep s' n' xs' l'=>simp only[Zb4] at h;obtain⟨rfl,rfl,rfl,rfl⟩:=h;exact .inr (.inr (.inr ⟨_,_,_,_,rfl,rfl⟩))
section
variable {g:List Nat} {o o' : Option Zl}
theorem Zqp (h:Zb4 g o o') (sz id n:Nat):Zcz sz id n o'=Zcz sz id n o:=by
 rcases Zb5 h with ⟨s,xs,e,f,e',f',rfl,rfl⟩ | ⟨rfl,rfl⟩ | ⟨cs,rfl,rfl⟩ | ⟨s,n,xs,l,rfl,rfl⟩<;>rfl
theorem Zoa (h:Zb4 g o o') (sz id off m n:Nat):Zb9 sz id off m n o'=Zb9 sz id off m n o:=by
 rcases Zb5 h with ⟨s,xs,e,f,e',f',rfl,rfl⟩ | ⟨rfl,rfl⟩ | ⟨cs,rfl,rfl⟩ | ⟨s,n,xs,l,rfl,rfl⟩<;>rfl
theorem Zob (h:Zb4 g o o') (s id:Nat) (lo hi:Option AV):Zca s id lo hi o'=Zca s id lo hi o:=by
 rcases Zb5 h with ⟨s,xs,e,f,e',f',rfl,rfl⟩ | ⟨rfl,rfl⟩ | ⟨cs,rfl,rfl⟩ | ⟨s,n,xs,l,rfl,rfl⟩<;>rfl
theorem Zmg (h:Zb4 g o o') (s id off n:Nat) (lo hi:Option AV):Zaq s id off n lo hi o'=Zaq s id off n lo hi o:=by
 rcases Zb5 h with ⟨s,xs,e,f,e',f',rfl,rfl⟩ | ⟨rfl,rfl⟩ | ⟨cs,rfl,rfl⟩ | ⟨s,n,xs,l,rfl,rfl⟩<;>rfl
theorem ZjP {id i off:Nat} {l l' : Option (Nat×Nat×Nat)} {x:D} {v:AV} (h:Zdv id i off l x=some v) (ho:okV v=true):Zdv id i off l' x=some v∧∃ d,v=.d d:=by
 unfold Zdv at h ⊢
 split at h
 ·unfold Zsd at h
  split at h
  ·split at h
   ·cases h;cases ho
   ·cases h
  ·cases h
 ·split at h
  ·rename_i hp;cases h;exact⟨by rw[if_pos hp],_,rfl⟩
  ·cases h
 ·cases h
theorem Zh0 {id:Nat} (h:Zb4 g o o') {a:Bool} {s sz i off:Nat} {v:AV} (ho:okV v=true):ZaF id a s sz i off o'=some v↔ZaF id a s sz i off o=some v:=by
 rcases Zb5 h with ⟨s,xs,e,f,e',f',rfl,rfl⟩ | ⟨rfl,rfl⟩ | ⟨cs,rfl,rfl⟩ | ⟨s,n,xs,l,rfl,rfl⟩
 ·exact Iff.rfl
 ·exact Iff.rfl
 ·exact Iff.rfl
 ·simp only[ZaF]
  split
  ·split
   ·exact Iff.rfl
   ·constructor<;>intro hh<;>obtain⟨x,h1,hh⟩:=Za hh<;>rw[h1,Ze]<;>exact(ZjP hh ho).1
  ·exact Iff.rfl
end
section
variable {hp hp' : Hp} {g:List Nat}
def Zh1 (g:List Nat) (hp hp' : Hp) (v:AV):Prop:=∀ k∈ZF v,Zb4 g (lkp hp k) (lkp hp' k)
theorem Zdq {v:AV} (h:Zh1 g hp hp' v):ZcS hp' v=ZcS hp v:=by
 cases v<;>simp only[ZcS]
 case d x=>cases x<;>rfl
 case own id=>rw[ZtB (h id (by simp[ZF,ZG,Zm]))]
theorem Za4 {v:AV} (h:Zh1 g hp hp' v) (sz n:Nat):QO hp' sz n v=QO hp sz n v:=by
 cases v<;>simp only[QO]
 case d x=>cases x<;>rfl
 case own id=>rw[Zqp (h id (by simp[ZF,ZG,Zm]))]
 case ownv id off n=>rw[Zoa (h id (by simp[ZF,ZG,Zm]))]
theorem Zff {v:AV} (h:Zh1 g hp hp' v) (s:Nat) (lo hi:Option AV):Wp hp' s lo hi v=Wp hp s lo hi v:=by
 cases v<;>simp only[Wp]
 case d x=>cases x<;>rfl
 case own id=>rw[Zob (h id (by simp[ZF,ZG,Zm]))]
 case ownv id off n=>rw[Zmg (h id (by simp[ZF,ZG,Zm]))]
theorem ZvT {x v:AV} (hs:Zh1 g hp hp' x) {a:Bool} {s:Nat} (h:UP hp a s x=some v) (ho:okV v=true) (hk:kill g v=v):UP hp' a s x=some v:=by
 cases x<;>simp only[UP] at h ⊢ <;> first | (cases h;done) | skip
 case ptr id off=>
  rcases Zb5 (hs id (by simp[ZF,ZG,Zm])) with ⟨_,_,_,_,_,_,e1,e2⟩ | ⟨e1,e2⟩ | ⟨cs,e1,e2⟩ | ⟨_,_,_,_,e1,e2⟩
  ·rw[e1] at h;cases h
  ·rw[e1] at h;cases h
  ·rw[e1] at h;rw[e2];exact Zr1 h ho hk
  ·rw[e1] at h;cases h
 case prow id sz i off=>exact(Zh0 (hs id (by simp[ZF,ZG,Zm])) ho).2 h
 case pim cs=>exact h
theorem ZvU {id:Nat} {a:Bool} {s sz i off:Nat} {o:Option Zl} {v:AV} (h:ZaF id a s sz i off o=some v) (ho:okV v=true):∃ d,v=.d d:=by
 unfold ZaF at h
 split at h
 ·split at h
  ·obtain⟨x,_,h⟩:=Za h
   unfold Zh6 at h
   split at h
   ·unfold ZcW at h
    split at h
    ·split at h
     ·cases h;exact⟨_,rfl⟩
     ·cases h
    ·unfold asD at h
     obtain⟨y,_,h⟩:=Za h
     cases h;exact⟨_,rfl⟩
   ·cases h
  ·cases h
 ·split at h
  ·split at h
   ·cases h
   ·obtain⟨x,_,h⟩:=Za h
    exact(ZjP (l':=none) h ho).2
  ·cases h
 ·cases h
theorem ZxL {a:Bool} {s off:Nat} {cs:List D} {v:AV} (h:ZcW a s off cs=some v):∃ d,v=.d d:=by
 unfold ZcW at h
 split at h
 ·split at h
  ·cases h;exact⟨_,rfl⟩
  ·cases h
 ·unfold asD at h
  obtain⟨y,_,h⟩:=Za h
  cases h;exact⟨_,rfl⟩
theorem ZvV {x v:AV} (hs:Zh1 g hp hp' x) {a:Bool} {s:Nat} (h:UP hp' a s x=some v) (ho:okV v=true):UP hp a s x=some v∧kill g v=v:=by
 cases x<;>simp only[UP] at h ⊢ <;> first | (cases h;done) | skip
 case ptr id off=>
  rcases Zb5 (hs id (by simp[ZF,ZG,Zm])) with ⟨_,_,_,_,_,_,e1,e2⟩ | ⟨e1,e2⟩ | ⟨cs,e1,e2⟩ | ⟨_,_,_,_,e1,e2⟩
  ·rw[e2] at h;cases h
  ·rw[e2] at h;cases h
  ·rw[e2] at h;rw[e1];exact Zr2 h ho
  ·rw[e2] at h;cases h
 case prow id sz i off=>
  have h:=(Zh0 (hs id (by simp[ZF,ZG,Zm])) ho).1 h
  obtain⟨d,rfl⟩:=ZvU h ho
  exact⟨h,rfl⟩
 case pim cs=>
  obtain⟨d,rfl⟩:=ZxL h
  exact⟨h,rfl⟩
theorem ZjQ {x:AV} {d:D} {e:Bool} (h:Zbi hp x=some (d,e,[])) (hp' : Hp):Zbi hp' x=some (d,e,[]):=by
 cases x<;>simp only[Zbi] at h ⊢ <;> first | exact h | skip
 case own id=>obtain⟨q,_,h⟩:=Za h;simp at h
theorem ZjR:∀ {xs:List AV} {d:List D} {e:Bool},Ws hp xs=some (d,e,[])→∀ hp' : Hp,Ws hp' xs=some (d,e,[])
 | [],d,e,h,hp'=>h
 | x :: xs,d,e,h,hp'=>by
  simp only[Ws] at h ⊢
  obtain⟨⟨d1,e1,l1⟩,h1,h⟩:=Za h
  obtain⟨⟨d2,e2,l2⟩,h2,h⟩:=Za h
  have hl:l1=[]∧l2=[]:=by
   simp only at h
   split at h
   ·simp only[Option.some.injEq,Prod.mk.injEq,List.append_eq_nil_iff] at h;exact h.2.2
   ·cases h
  obtain⟨rfl,rfl⟩:=hl
  rw[ZjQ h1 hp',Ze,ZjR h2 hp',Ze]
  exact h
theorem ZtC {x:AV} {d:D} {e:Bool} (h:give hp x=some (d,e,[])) (hp' : Hp):give hp' x=some (d,e,[]):=by
 cases x<;>simp only[give] at h ⊢ <;> first | exact ZjQ h hp' | skip
 case agg cs=>
  obtain⟨⟨d1,e1,l1⟩,h1,h⟩:=Za h
  simp only[Option.some.injEq,Prod.mk.injEq] at h
  obtain⟨rfl,rfl,rfl⟩:=h
  rw[ZjR h1 hp',Ze]
theorem ZgD:∀ {xs:List AV} {d:List D} {e:Bool},Ul hp xs=some (d,e,[])→∀ hp' : Hp,Ul hp' xs=some (d,e,[])
 | [],d,e,h,hp'=>h
 | x :: xs,d,e,h,hp'=>by
  simp only[Ul] at h ⊢
  obtain⟨⟨d1,e1,l1⟩,h1,h⟩:=Za h
  obtain⟨⟨d2,e2,l2⟩,h2,h⟩:=Za h
  have hl:l1=[]∧l2=[]:=by
   simp only at h
   split at h
   ·simp only[Option.some.injEq,Prod.mk.injEq,List.append_eq_nil_iff] at h;exact h.2.2
   ·cases h
  obtain⟨rfl,rfl⟩:=hl
  rw[ZtC h1 hp',Ze,ZgD h2 hp',Ze]
  exact h
theorem ZgE {base s:Nat} {vs:List AV} {ce:Zb} (h:buildSl hp base s vs=some ce) (hf:ce.eff.frz=[]) (hp' : Hp) :
  buildSl hp' base s vs=some ce∧(ce.eff.val=.nil∨ce.eff.val=.own base)∧(∀ k o,(k,o)∈ce.eff.adds→∃ sz xs e f,o=.row sz xs e f):=by
 cases vs with
 | nil=>simp only[buildSl,QY] at h ⊢;cases h;exact⟨rfl,.inl rfl,fun k o h=>by simp at h⟩
 | cons v vs=>
  simp only[buildSl] at h ⊢
  obtain⟨⟨ds,e,l⟩,h1,h⟩:=Za h
  unfold ZtN at h
  split at h
  ·rename_i hc
   cases h
   simp only at hf
   subst hf
   rw[ZgD h1 hp',Ze]
   refine⟨?_,.inr rfl,fun k o ho=>?_⟩
   ·unfold ZtN;rw[if_pos hc]
   ·simp at ho;obtain⟨rfl,rfl⟩:=ho;exact⟨_,_,_,_,rfl⟩
  ·cases h
end
theorem Zh2 {C:Orc} {M:Zo} {sl:Sl} {hp hp' : Hp} {base:Nat} {c:COp} (hc:WY c=true):vop C M sl hp base c=vop C M sl hp' base c:=by
 cases c<;>first | rfl | (simp[WY] at hc)
section
variable {C:Orc} {M:Zo} {sl sl' : Sl} {hp hp' : Hp} {base:Nat} {g:List Nat}
theorem Qp {v:AV} {ce:Zb} (h:QY v=some ce):ce.eff.adds=[]:=by cases h;rfl
theorem Q3 {v:Option AV} {ce:Zb} (h:Wq v=some ce):ce.eff.adds=[]:=by obtain⟨v,_,h⟩:=Za h;exact Qp h
theorem ZaU {v:Option AV} {ce:Zb} (h:Wq v=some ce):v=some ce.eff.val:=by obtain⟨v,rfl,h⟩:=Za h;cases h;rfl
theorem ZuI {v:Option AV} {ce:Zb} {w:Option AV} (h:Wq v=some ce) (hw:w=some ce.eff.val):Wq w=some ce:=by
 obtain⟨v,rfl,h⟩:=Za h;cases h;rw[hw];rfl
theorem ZtD {c:COp} (hc:WY c=true) (hv:ZtY c=true) {ce:Zb} (h:vop C M sl hp base c=some ce):ce.eff.adds=[]:=by
 cases c<;>simp only[WY,ZtY,Bool.false_eq_true] at hc hv<;>simp only[vop] at h
 case stuck=>cases h
 case move x=>exact Qp h
 case pick c a b=>
  unfold ZeE at h
  split at h
  ·split at h<;>exact Qp h
  ·cases h
 case build zs ps=>obtain⟨cs,_,h⟩:=Za h;exact Qp h
 case nilCheck x=>unfold JZ at h;split at h<;>first | exact Qp h | cases h
 case bin op eq x y=>
  unfold ZkE at h
  split at h
  ·split at h
   ·exact Q3 h
   ·cases h
  ·exact Q3 h
 case un op x=>exact Q3 h
 case eqA neg n x y=>
  unfold Zoe at h
  split at h
  ·obtain⟨r,_,h⟩:=Za h;exact Qp h
  ·cases h
 case convI k x=>unfold Go.Abs.convI at h;split at h<;>first | exact Qp h | cases h
 case convS x=>unfold Go.Abs.convS at h;split at h<;>first | exact Qp h | cases h
 case sliceS x lo hi=>exact Q3 h
 case shift off x=>unfold VS at h;split at h<;>first | exact Qp h | cases h
 case part g s off x=>exact Q3 h
 case iaA len s x i=>
  obtain⟨n,_,h⟩:=Za h
  unfold ZjX at h
  split at h
  ·unfold VS at h;split at h<;>first | exact Qp h | cases h
  ·cases h
 case ixS x i=>
  obtain⟨n,_,h⟩:=Za h
  unfold Zsg at h
  split at h
  ·unfold Zo4 at h
   split at h
   ·obtain⟨b,_,h⟩:=Za h;exact Qp h
   ·cases h
  ·cases h
 case ixA g s len x i=>
  obtain⟨n,_,h⟩:=Za h
  unfold ZtO at h
  split at h
  ·exact Q3 h
  ·cases h
 case nth i x=>unfold Zqx at h;split at h<;>first | exact Q3 h | cases h
 case lenS x=>obtain⟨n,_,h⟩:=Za h;exact Qp h
 case min x y=>unfold Zia at h;split at h<;>first | (split at h<;>first | exact Qp h | cases h) | cases h
 case max x y=>unfold Zib at h;split at h<;>first | (split at h<;>first | exact Qp h | cases h) | cases h
theorem ZjS {c:AV} (h:Zc1 c=true):Z0 g c=c:=by cases c<;>first | rfl | cases h
theorem Zeb:∀ {cs:List AV},V3 cs=true→∀ c∈cs,Zc1 c=true
 | [],_,c,hc=>by simp at hc
 | x :: l,h,c,hc=>by
  simp only[V3,Bool.and_eq_true] at h
  rcases List.mem_cons.1 hc with rfl | hc
  ·exact h.1
  ·exact Zeb h.2 c hc
theorem Zi4:∀ (slc:List (Option Nat)) (cs:List AV) (b:Nat),(∀ c∈(mat slc cs b).1,c∈cs∨∃ k o,c=.own k∧(k,o)∈(mat slc cs b).2)∧∀ k o,(k,o)∈(mat slc cs b).2→∃ sz,o=.row sz [] true false
 | [],cs,b=>by simp only[mat];exact⟨fun c hc=>.inl hc,fun k o h=>by simp at h⟩
 | t :: ts,[],b=>by cases t<;>(simp only[mat];exact⟨fun c hc=>.inl hc,fun k o h=>by simp at h⟩)
 | t :: ts,v :: vs,b=>by
  by_cases hv:(∃ sz,t=some sz)∧v=.nil
  ·obtain⟨⟨sz,rfl⟩,rfl⟩:=hv
   obtain⟨h1,h2⟩:=Zi4 ts vs (b+1)
   simp only[mat]
   refine⟨fun c hc=>?_,fun k o h=>?_⟩
   ·rcases List.mem_cons.1 hc with rfl | hc
    ·exact .inr ⟨b,_,rfl,List.mem_cons_self ..⟩
    ·rcases h1 c hc with h | ⟨k,o,e,h⟩
     ·exact .inl (List.mem_cons_of_mem _ h)
     ·exact .inr ⟨k,o,e,List.mem_cons_of_mem _ h⟩
   ·rcases List.mem_cons.1 h with h | h
    ·cases h;exact⟨_,rfl⟩
    ·exact h2 k o h
  ·obtain⟨h1,h2⟩:=Zi4 ts vs b
   have e:mat (t :: ts) (v :: vs) b=(v :: (mat ts vs b).1,(mat ts vs b).2):=by
    cases t with
    | none=>simp[mat]
    | some sz=>cases v<;>first | (exact absurd ⟨⟨sz,rfl⟩,rfl⟩ hv) | simp[mat]
   rw[e]
   refine⟨fun c hc=>?_,h2⟩
   rcases List.mem_cons.1 hc with rfl | hc
   ·exact .inl (List.mem_cons_self ..)
   ·rcases h1 c hc with h | h
    ·exact .inl (List.mem_cons_of_mem _ h)
    ·exact .inr h
theorem ZoQ {base:Nat}:∀ {cs:List AV},V3 cs=true→cs.map (Zg5 base)=cs
 | [],_=>rfl
 | c :: cs,h=>by
  simp only[V3,Bool.and_eq_true] at h
  rw[List.map_cons,ZoQ h.2]
  congr 1
  cases c<;>first | rfl | (simp[Zc1] at h)
theorem ZoR:∀ {cs:List AV},V3 cs=true→X7 cs=true
 | [],_=>rfl
 | c :: cs,h=>by
  simp only[V3,Bool.and_eq_true] at h
  have:=ZoR h.2
  cases c<;>first | exact this | (simp[Zc1] at h)
theorem ZjT {slc:List (Option Nat)} {cs:List AV} {ce:Zb} (hb:∀ k,base≤k→k<base+64→k∉g) (hc:V3 cs=true) (h:Zee slc base cs=some ce) (hok:Q7 base (base+64) ce.eff.adds=true) :
  (∀ id∈ZF ce.eff.val,id∉g)∧∀ k o,(k,o)∈ce.eff.adds→X8 g o=o:=by
 have hr:=Uq hok
 unfold Zee at h
 rw[ZoQ hc] at h
 unfold Zi9 at h
 rw[if_neg (by rw[ZoR hc];decide)] at h
 split at h
 ·cases h
  simp only at hr ⊢
  obtain⟨h1,h2⟩:=Zi4 slc cs (base+1)
  refine⟨fun id hid=>?_,fun k o hm=>?_⟩
  ·simp[ZF,ZG,Zm] at hid;subst hid;exact hb _ (Nat.le_refl _) (by omega)
  ·rcases List.mem_cons.1 hm with hm | hm
   ·cases hm
    simp only[X8]
    congr 1
    rw[List.map_congr_left (g:=id),List.map_id]
    intro c hcm
    rcases h1 c hcm with h | ⟨k,o,rfl,h⟩
    ·exact ZjS (Zeb hc c h)
    ·have:=hr k o (List.mem_cons_of_mem _ h)
     have hk:=hb k this.1 this.2
     simp[Z0,Qk,hk]
   ·obtain⟨sz,rfl⟩:=h2 k o hm;rfl
 ·cases h
  simp only at hr ⊢
  refine⟨fun id hid=>?_,fun k o hm=>?_⟩
  ·simp[ZF,ZG,Zm] at hid;subst hid;exact hb _ (Nat.le_refl _) (by omega)
  ·simp at hm
   obtain⟨rfl,rfl⟩:=hm
   simp only[X8]
   congr 1
   rw[List.map_congr_left (g:=id),List.map_id]
   exact fun c hcm=>ZjS (Zeb hc c hcm)
theorem ZvW {c:COp} (hc:ZmM c=true) (he:∀ x∈ZN c,evO sl' x=evO sl x) (hs:∀ x∈ZN c,Zh1 g hp hp' (evO sl x)) {ce:Zb}
  (hb:∀ k,base≤k→k<base+64→k∉g) (h:vop C M sl hp base c=some ce) (hok:Q7 base (base+64) ce.eff.adds=true) (hfz:ce.eff.frz=[]) (ho:okV ce.eff.val=true) (hk:kill g ce.eff.val=ce.eff.val):vop C M sl' hp' base c=some ce∧∀ k o,(k,o)∈ce.eff.adds→X8 g o=o:=by
 rw[XE C M hp' base he]
 have none0:ce.eff.adds=[]→∀ k o,(k,o)∈ce.eff.adds→X8 g o=o:=fun e k o hm=>by rw[e] at hm;simp at hm
 simp only[ZmM,Bool.or_eq_true,Bool.and_eq_true] at hc
 rcases hc with ((hc | hc) | ⟨hc1,hc2⟩) | hc
 ·cases c<;>simp only[J2,Bool.false_eq_true] at hc<;>simp only[vop] at h ⊢ <;> simp only[ZN] at hs
  case load a s x=>exact⟨ZuI h (ZvT (hs x (by simp)) (ZaU h) ho hk),none0 (Q3 h)⟩
  case slice s x lo hi=>
   rw[Zff (hs x (by simp))]
   exact⟨h,none0 (Q3 h)⟩
  case slice0 x hi mx=>
   unfold slice0 at h ⊢
   rw[Zdq (hs x (by simp))]
   exact⟨h,none0 (Q3 h)⟩
  case iaS s x i=>
   obtain⟨n,h1,h⟩:=Za h
   rw[h1,Ze]
   unfold Zfn at h ⊢
   rw[Za4 (hs x (by simp))]
   refine⟨h,none0 ?_⟩
   split at h
   ·exact Q3 h
   ·cases h
  case len x=>
   rw[Zdq (hs x (by simp))]
   refine⟨h,none0 ?_⟩
   obtain⟨n,_,h⟩:=Za h;exact Qp h
 ·cases c<;>simp only[Zo8,Bool.false_eq_true] at hc
  simp only[vop] at h ⊢
  obtain⟨h1,h2,h3⟩:=ZgE h hfz hp'
  refine⟨h1,fun k o hm=>?_⟩
  obtain⟨sz,xs,e,f,rfl⟩:=h3 k o hm
  rfl
 ·rw[← Zh2 (hp:=hp) hc1]
  exact⟨h,none0 (ZtD hc1 hc2 h)⟩
 ·cases c<;>simp only[ZkQ,Bool.false_eq_true] at hc
  simp only[vop] at h ⊢
  exact⟨h,(ZjT hb hc h hok).2⟩
theorem ZtE {c:COp} (hc:Zii c=true) (he:∀ x∈ZN c,evO sl' x=evO sl x) (hs:∀ x∈ZN c,Zh1 g hp hp' (evO sl x)) {ce:Zb}
  (hn:∀ x∈ZN c,∀ id∈ZF (evO sl x),id∉g) (hb:∀ k,base≤k→k<base+64→k∉g)
  (h:vop C M sl' hp' base c=some ce) (hok:Q7 base (base+64) ce.eff.adds=true) (hfz:ce.eff.frz=[]) (ho:okV ce.eff.val=true):vop C M sl hp base c=some ce∧kill g ce.eff.val=ce.eff.val∧∀ k o,(k,o)∈ce.eff.adds→X8 g o=o:=by
 rw[XE C M hp' base he] at h
 have none0:ce.eff.adds=[]→∀ k o,(k,o)∈ce.eff.adds→X8 g o=o:=fun e k o hm=>by rw[e] at hm;simp at hm
 have names:(∀ id∈ZF ce.eff.val,id∉g)→kill g ce.eff.val=ce.eff.val:=ZuH ho
 cases c<;>simp only[Zii,Bool.false_eq_true] at hc<;>simp only[vop] at h ⊢ <;> simp only[ZN] at hs hn
 case alloc slc cs=>
  obtain⟨h1,h2⟩:=ZjT hb hc h hok
  exact⟨h,names h1,h2⟩
 case buildSl s xs=>
  obtain⟨h1,h2,h3⟩:=ZgE h hfz hp
  refine⟨h1,names fun id hid=>?_,fun k o hm=>?_⟩
  ·rcases h2 with h2 | h2
   ·rw[h2] at hid;simp[ZF,ZG,Zm] at hid
   ·rw[h2] at hid;simp[ZF,ZG,Zm] at hid;subst hid;exact hb _ (Nat.le_refl _) (by omega)
  ·obtain⟨sz,xs,e,f,rfl⟩:=h3 k o hm
   rfl
 case load a s x=>
  obtain⟨h1,h2⟩:=ZvV (hs x (by simp)) (ZaU h) ho
  exact⟨ZuI h h1,h2,none0 (Q3 h)⟩
 case nilCheck x=>
  have hx:=hn x (by simp)
  refine⟨h,names ?_,none0 ?_⟩
  ·unfold JZ at h
   split at h<;>rename_i hv<;>first | (cases h;done) | (cases h;show ∀ id∈ZF _,_;rw[← hv];exact hx)
  ·unfold JZ at h;split at h<;>first | exact Qp h | cases h
 case bin op eq x y=>
  have hd:∃ d,ce.eff.val=.d d:=by
   have o2:∀ {a b:AV},Wq (vbin op a b)=some ce→∃ d,ce.eff.val=.d d:=fun {a b} h=>by
    have h1:=ZaU h
    unfold vbin at h1
    split at h1
    ·unfold JT at h1
     split at h1
     ·obtain⟨y,_,h1⟩:=Za h1;exact⟨_,(Option.some.inj h1).symm⟩
     ·obtain⟨y,_,h1⟩:=Za h1;exact⟨_,(Option.some.inj h1).symm⟩
     ·split at h1
      ·obtain⟨y,_,h1⟩:=Za h1
       have:=Option.some.inj h1
       exact⟨_,this.symm⟩
      ·cases h1
    ·obtain⟨y,_,h1⟩:=Za h1
     have:=Option.some.inj h1
     exact⟨_,this.symm⟩
    ·cases h1
   unfold ZkE at h
   split at h
   ·split at h
    ·have h1:=ZaU h
     unfold Zoz at h1
     split at h1
     ·exact⟨_,(Option.some.inj h1).symm⟩
     ·exact⟨_,(Option.some.inj h1).symm⟩
     ·cases h1
    ·cases h
   ·exact o2 h
  obtain⟨d,hd⟩:=hd
  refine⟨h,by rw[hd];rfl,none0 ?_⟩
  unfold ZkE at h
  split at h
  ·split at h
   ·exact Q3 h
   ·cases h
  ·exact Q3 h
 case un op x=>
  have hd:∃ d,ce.eff.val=.d d:=by
   have h1:=ZaU h
   unfold vun at h1
   split at h1
   ·unfold neg1 at h1
    split at h1
    ·exact⟨_,(Option.some.inj h1).symm⟩
    ·cases h1
   ·unfold not1 at h1
    split at h1
    ·exact⟨_,(Option.some.inj h1).symm⟩
    ·cases h1
   ·cases h1
  obtain⟨d,hd⟩:=hd
  exact⟨h,by rw[hd];rfl,none0 (Q3 h)⟩
 case convI k x=>
  unfold Go.Abs.convI at h ⊢
  split at h
  ·exact⟨h,by cases h;rfl,none0 (Qp h)⟩
  ·cases h
 case shift off x=>
  have hx:=hn x (by simp)
  refine⟨h,names ?_,none0 ?_⟩
  ·unfold VS at h
   split at h<;>rename_i hv<;>first | (cases h;done) | skip
   ·cases h;rw[hv] at hx;simpa [ZF,ZG,Zm] using hx
   ·cases h;rw[hv] at hx;simpa [ZF,ZG,Zm] using hx
   ·cases h;simp[ZF,ZG,Zm]
  ·unfold VS at h;split at h<;>first | exact Qp h | cases h
 case slice s x lo hi=>
  have hx:=hn x (by simp)
  rw[Zff (hs x (by simp))] at h
  refine⟨h,names ?_,none0 (Q3 h)⟩
  have h1:=ZaU h
  cases hv:evO sl x<;>rw[hv] at h1 hx<;>simp only[Wp] at h1<;>first | (cases h1;done) | skip
  case d y=>
   cases y<;>simp only[Wp] at h1<;>first | (cases h1;done) | skip
   split at h1
   ·obtain⟨b,_,h1⟩:=Za h1;rw[← Option.some.inj h1];simp[ZF,ZG,Zm]
   ·cases h1
  case nil=>obtain⟨b,_,h1⟩:=Za h1;rw[← Option.some.inj h1];simp[ZF,ZG,Zm]
  case own id=>
   unfold Zca at h1
   split at h1
   ·split at h1
    ·unfold Zsf at h1
     split at h1
     ·rw[← Option.some.inj h1];exact hx
     ·obtain⟨b,_,h1⟩:=Za h1;rw[← Option.some.inj h1];simpa [ZF,ZG,Zm] using hx
    ·cases h1
   ·cases h1
  case ownv id off n=>
   unfold Zaq at h1
   split at h1
   ·split at h1
    ·obtain⟨b,_,h1⟩:=Za h1;rw[← Option.some.inj h1];simpa [ZF,ZG,Zm] using hx
    ·cases h1
   ·cases h1
 case sliceS x lo hi=>
  have hd:∃ d,ce.eff.val=.d d:=by
   have h1:=ZaU h
   unfold sliceS at h1
   split at h1
   ·obtain⟨b,_,h1⟩:=Za h1;exact⟨_,(Option.some.inj h1).symm⟩
   ·cases h1
  obtain⟨d,hd⟩:=hd
  exact⟨h,by rw[hd];rfl,none0 (Q3 h)⟩
 case lenS x=>
  obtain⟨n,h1,h⟩:=Za h
  refine⟨by rw[h1,Ze];exact h,by cases h;rfl,none0 (Qp h)⟩
 case iaS s x i=>
  have hx:=hn x (by simp)
  obtain⟨n,h1,h⟩:=Za h
  rw[h1,Ze]
  unfold Zfn at h ⊢
  rw[Za4 (hs x (by simp))] at h
  refine⟨h,names ?_,none0 ?_⟩
  ·split at h
   ·have h1:=ZaU h
    cases hv:evO sl x<;>rw[hv] at h1 hx<;>simp only[QO] at h1<;>first | (cases h1;done) | skip
    case d y=>
     cases y<;>simp only[QO] at h1<;>first | (cases h1;done) | skip
     obtain⟨b,_,h1⟩:=Za h1
     unfold ZuQ at h1
     split at h1
     ·rw[← Option.some.inj h1];simp[ZF,ZG,Zm]
     ·cases h1
    case own id=>
     unfold Zcz at h1
     split at h1
     ·split at h1
      ·rw[← Option.some.inj h1];simpa [ZF,ZG,Zm] using hx
      ·cases h1
     ·split at h1
      ·rw[← Option.some.inj h1];simpa [ZF,ZG,Zm] using hx
      ·cases h1
     ·cases h1
    case ownv id off n=>
     unfold Zb9 at h1
     split at h1
     ·split at h1
      ·rw[← Option.some.inj h1];simpa [ZF,ZG,Zm] using hx
      ·cases h1
     ·cases h1
   ·cases h
  ·split at h
   ·exact Q3 h
   ·cases h
 case len x=>
  rw[Zdq (hs x (by simp))] at h
  obtain⟨n,h1,h2⟩:=Za h
  exact⟨h,by cases h2;rfl,none0 (Qp h2)⟩
end
end Go.Abs
