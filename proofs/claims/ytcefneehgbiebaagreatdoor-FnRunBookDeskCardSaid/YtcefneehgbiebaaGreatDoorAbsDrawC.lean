/- Own text. -/
import Derived.Test.YtcefneehgbiebaaGreatDoorAbsDraw3
import Derived.Test.YtcefneehgbiebaaGreatDoorAbsSound5
set_option linter.unusedVariables false
set_option linter.unusedSimpArgs false
namespace Go.Abs
open Go
theorem ZyA {v:AV} (h:okC v=true):okV v=true:=by
 cases v<;>first | exact h | cases h
theorem Zlh {g:List Nat} {v:AV} (h:okC (Qf g v)=true):Qf g v=v:=by
 cases v<;>simp only[Qf] at h ⊢ <;> first | rfl | (split at h<;>rename_i h' <;> first | (cases h;done) | rw[Ke h'])
theorem Zja {g:List Nat}:∀ {cs:List AV},Zuj (cs.map (Qf g))=true→cs.map (Qf g)=cs
 | [],_=>rfl
 | c :: cs,h=>by
  simp only[Kj,Zuj,Kf] at h ⊢;rw[Zlh h.1,Zja h.2]
theorem ZeW {g:List Nat} {v:AV} (h:okV (ZV g v)=true):ZV g v=v:=by
 cases v with
 | agg cs=>simp only[ZV,okV] at h ⊢;rw[Zja h]
 | clo f cs=>simp only[ZV,okV,okC] at h;cases h
 | tup vs=>rfl
 | _=>
  simp only[ZV] at h ⊢;refine Zlh ?_;revert h;simp only[Qf]
  first | exact id | (split<;>first | exact id | (intro h;cases h))
theorem ZcY {g:List Nat} {v:AV} (h:okV (kill g v)=true):kill g v=v:=by
 cases v with
 | tup vs=>
  cases vs with
  | nil=>rfl
  | cons x r=>simp only[kill,Kj,okV,okC] at h;cases h
 | _=>simp only[kill] at h ⊢;exact ZeW h
theorem Zvw {g:List Nat} {v:AV} (hn:∀ id∈Zn v,id∉g):Qf g v=v:=by
 cases v<;>simp only[Qf]<;>first | rfl | (rw[Ke];simpa [Zn] using hn)
theorem ZyB {g:List Nat} {v:AV} (h:okV v=true) (hn:∀ id∈ZD v,id∉g):kill g v=v:=by
 cases v with
 | tup vs=>
  cases vs with
  | nil=>rfl
  | cons x r=>simp only[okV,okC] at h;cases h
 | clo f cs=>simp only[okV,okC] at h;cases h
 | agg cs=>
  simp only[kill,ZV];congr 1
  rw[KS (g:=id),Lu];intro c hc;exact Zvw fun id aa=>hn id (by simp only[ZD,ZE,Ky];exact⟨c,hc,aa⟩)
 | _=>simp only[kill,ZV];exact Zvw hn
theorem ZAX {g:List Nat} {v:AV} (h:kill g v=v):∀ id∈ZD v,id∉g:=fun id aa=>(Zla g v id (by rw[h];exact aa)).2
theorem Zzz {g:List Nat} {c:AV} (h:okC c=true) (h1:Qf g c=c):ZV g c=c:=by
 cases c<;>simp only[ZV]<;>first | exact h1 | cases h
def ZcZ (g:List Nat):Option Zm→Option Zm→Prop
 | none,none=>True
 | some (.row s xs _ _),some (.row s' xs' _ _)=>s'=s∧xs'=xs
 | some (.box cs),some (.box cs')=>cs'=cs.map (ZV g)
 | some (.deep s n xs l),some (.deep s' n' xs' l')=>s'=s∧n'=n∧xs'=xs∧l'=ZgT g l
 | _,_=>False
theorem Zvx {g:List Nat} {b:Bool} (o:Option Zm):ZcZ g o ((o.map (XZ g)).map fun o=>if b then VQ o else o):=by
 cases o with
 | none=>trivial
 | some o=>cases o<;>cases b<;>exact(by first | exact⟨rfl,rfl⟩ | exact rfl | exact⟨rfl,rfl,rfl,rfl⟩)
theorem ZsE {g:List Nat}:∀ {l:List AV} {ds:List D},Zfz l=some ds→l.map (ZV g)=l
 | [],ds,_=>rfl
 | v :: l,ds,h=>by
  simp only[Zfz] at h;obtain⟨x,h1,h⟩:=Za h;obtain⟨aa,h2,h⟩:=Za h;have:ZV g v=v:=by cases v<;>first | rfl | cases h1
  rw[Kj,this,ZsE h2]
theorem ZoO {g:List Nat}:∀ {l:List AV} {ds:List D},Zfz (l.map (ZV g))=some ds→l.map (ZV g)=l
 | [],ds,_=>rfl
 | v :: l,ds,h=>by
  simp only[Kj,Zfz] at h;obtain⟨x,h1,h⟩:=Za h;obtain⟨aa,h2,h⟩:=Za h;have hv:ZV g v=v:=by
   refine ZeW ?_;cases hk:ZV g v<;>rw[hk] at h1<;>first | rfl | cases h1
  rw[Kj,hv,ZoO h2]
theorem Zg0 (l:List AV):(∃ ds,Zfz l=some ds∧J1 l=.d (.agg ds))∨(Zfz l=none∧(J1 l=.junk∨J1 l=.agg l)):=by
 unfold J1;cases h:Zfz l with
 | some ds=>exact .inl ⟨ds,rfl,rfl⟩
 | none=>
  refine .inr ⟨rfl,?_⟩;unfold Jl;split
  ·rename_i h;cases h
  ·split
   ·exact .inl rfl
   ·exact .inr rfl
theorem Zj3:∀ {l:List AV},Zuj l=true→∀ c∈l,okC c=true
 | [],_,c,hc=>by simp at hc
 | x :: l,h,c,hc=>by
  simp only[Zuj,Kf] at h;rcases Kd.1 hc with rfl | hc
  ·exact h.1
  ·exact Zj3 h.2 c hc
theorem ZzA {g:List Nat} {l:List AV} (h:okV (J1 l)=true) (hk:kill g (J1 l)=J1 l):l.map (ZV g)=l:=by
 rcases Zg0 l with ⟨ds,h1,h2⟩ | ⟨h1,h2 | h2⟩
 ·exact ZsE h1
 ·rw[h2] at h;cases h
 ·rw[h2] at h hk;simp only[kill,ZV,AV.agg.injEq] at hk;simp only[okV] at h;have hm:=Zj3 h;have aa : ∀ c∈l,Qf g c=c:=by
   intro c hc;have:=Zja (g:=g) (cs:=l) (by rw[hk];exact h);exact Zlh (by
    have h3:Qf g c∈l.map (Qf g):=L9 hc;rw[hk] at h3;exact hm _ h3)
  rw[KS (g:=id),Lu];intro c hc;exact Zzz (hm c hc) (aa c hc)
theorem ZzB {g:List Nat} {l:List AV} (h:okV (J1 (l.map (ZV g)))=true):l.map (ZV g)=l:=by
 rcases Zg0 (l.map (ZV g)) with ⟨ds,h1,h2⟩ | ⟨h1,h2 | h2⟩
 ·exact ZoO h1
 ·rw[h2] at h;cases h
 ·rw[h2] at h;simp only[okV] at h;have hm:=Zj3 h;rw[KS (g:=id),Lu];intro c hc;exact ZeW (ZyA (hm _ (L9 hc)))
theorem Zxj {g:List Nat} {v:AV} (h:okV v=true) (hk:kill g v=v):ZV g v=v:=by
 cases v with
 | tup vs=>rfl
 | _=>simp only[kill] at hk;exact hk
theorem Zxk {g:List Nat} {v:AV} (h:okV v=true) (hk:ZV g v=v):kill g v=v:=by
 cases v with
 | tup vs=>
  cases vs with
  | nil=>rfl
  | cons x r=>simp only[okV,okC] at h;cases h
 | _=>simp only[kill];exact hk
theorem ZiI {α β:Type} (f:α→β) (l:List α) (a b:Nat):((l.map f).drop a).take b=((l.drop a).take b).map f:=by
 rw[← List.map_drop,← List.map_take]
theorem Zmz (g:List Nat) (c:AV):Zj8 (ZV g c)=ZV g (Zj8 c):=by
 have aa:∀ v:AV,(∀ a b,v≠.bbuf a b)→Zj8 v=v:=fun v h'=>by cases v<;>first | rfl | exact absurd rfl (h' _ _)
 by_cases h' : ∃ a b,c=.bbuf a b
 ·obtain⟨a,b,rfl⟩:=h';rfl
 ·have h2:∀ a b,c≠.bbuf a b:=fun a b e=>h' ⟨a,b,e⟩;rw[aa c h2,aa];exact fun a b e=>h2 a b ((JC g c a b).1 e)
theorem Zvy {g:List Nat} {cs:List AV} {a:Bool} {s off:Nat} {v:AV} (h:Zbv a s off (some (.box cs))=some v) (ho:okV v=true) (hk:kill g v=v):Zbv a s off (some (.box (cs.map (ZV g))))=some v:=by
 unfold Zbv at h ⊢;cases a with
 | true=>
  simp only[Km] at h ⊢;split at h
  ·rename_i hl;cases h;rw[Kh (by simpa using hl),ZiI,ZzA ho hk]
  ·cases h
 | false=>
  simp only[Ka,Kq] at h ⊢;obtain⟨c,hc,rfl⟩:=Option.map_eq_some_iff.1 h;rw[KX,hc];simp only[KI];rw[Zmz,Zxj ho hk]
theorem Zvz {g:List Nat} {cs:List AV} {a:Bool} {s off:Nat} {v:AV} (h:Zbv a s off (some (.box (cs.map (ZV g))))=some v) (ho:okV v=true):Zbv a s off (some (.box cs))=some v∧kill g v=v:=by
 unfold Zbv at h ⊢;cases a with
 | true=>
  simp only[Km] at h ⊢;split at h
  ·rename_i hl;cases h;rw[ZiI] at ho ⊢;have he:=ZzB ho;rw[he] at ho ⊢;refine⟨by rw[Kh (by simpa using hl)],?_⟩;rcases Zg0 ((cs.drop off).take s) with ⟨ds,h1,h2⟩ | ⟨h1,h2 | h2⟩
   ·rw[h2];rfl
   ·rw[h2] at ho;cases ho
   ·rw[h2] at ho ⊢;simp only[okV] at ho;have hm:=Zj3 ho;simp only[kill,ZV,AV.agg.injEq];rw[KS (g:=id),Lu];intro c hc;have h3:ZV g c=c:=by
     refine ZeW ?_;have h4:ZV g c∈((cs.drop off).take s).map (ZV g):=L9 hc;rw[he] at h4;exact ZyA (hm _ h4)
    have:=hm c hc;cases c<;>first | exact h3 | cases this
  ·cases h
 | false=>
  simp only[Ka,Kq] at h ⊢;rw[KX] at h;cases hc:cs[off]? with
  | none=>rw[hc] at h;cases h
  | some c=>
   rw[hc] at h;simp only[KI,Option.some.injEq] at h;rw[Zmz] at h;have h3:ZV g (Zj8 c)=Zj8 c:=ZeW (by rw[h];exact ho);rw[h3] at h;subst h;exact⟨rfl,Zxk ho h3⟩
theorem Zxl {g:List Nat} {o o' : Option Zm} (h:ZcZ g o o'):J2 o'=J2 o:=by
 cases o with
 | none=>cases o' with
  | none=>rfl
  | some o'=>cases h
 | some o=>cases o' with
  | none=>cases o<;>cases h
  | some o'=>cases o<;>cases o' <;> simp only[ZcZ] at h<;>first | (cases h;done) | rfl | (obtain⟨rfl,rfl⟩:=h;rfl) | (obtain⟨_,_,rfl,_⟩:=h;rfl)
theorem Zc0 {g:List Nat} {o o' : Option Zm} (h:ZcZ g o o'):(∃ s xs e f e' f',o=some (.row s xs e f)∧o'=some (.row s xs e' f'))∨(o=none∧o'=none)∨(∃ cs,o=some (.box cs)∧o'=some (.box (cs.map (ZV g))))∨(∃ s n xs l,o=some (.deep s n xs l)∧o'=some (.deep s n xs (ZgT g l))):=by
 cases o with
 | none=>cases o' with
  | none=>exact .inr (.inl ⟨rfl,rfl⟩)
  | some o'=>cases h
 | some o=>cases o' with
  | none=>cases o<;>cases h
  | some o' =>
   cases o with
   | box cs=>cases o' with
    | box cs'=>simp only[ZcZ] at h;subst h;exact .inr (.inr (.inl ⟨cs,rfl,rfl⟩))
    | row _ _ _ _=>cases h
    | deep _ _ _ _=>cases h
   | row s xs e f=>cases o' with
    | box cs'=>cases h
    | row s' xs' e' f'=>simp only[ZcZ] at h;obtain⟨rfl,rfl⟩:=h;exact .inl ⟨_,_,_,_,_,_,rfl,rfl⟩
    | deep _ _ _ _=>cases h
   | deep s n xs l=>cases o' with
    | box cs'=>cases h
    | row _ _ _ _=>cases h
    | deep s' n' xs' l'=>simp only[ZcZ] at h;obtain⟨rfl,rfl,rfl,rfl⟩:=h;exact .inr (.inr (.inr ⟨_,_,_,_,rfl,rfl⟩))
section
variable {g:List Nat} {o o' : Option Zm}
theorem ZtY (h:ZcZ g o o') (sz id n:Nat):ZdX sz id n o'=ZdX sz id n o:=by
 rcases Zc0 h with ⟨s,xs,e,f,e',f',rfl,rfl⟩ | ⟨rfl,rfl⟩ | ⟨cs,rfl,rfl⟩ | ⟨s,n,xs,l,rfl,rfl⟩<;>rfl
theorem Zq8 (h:ZcZ g o o') (sz id off m n:Nat):Zc4 sz id off m n o'=Zc4 sz id off m n o:=by
 rcases Zc0 h with ⟨s,xs,e,f,e',f',rfl,rfl⟩ | ⟨rfl,rfl⟩ | ⟨cs,rfl,rfl⟩ | ⟨s,n,xs,l,rfl,rfl⟩<;>rfl
theorem Zq9 (h:ZcZ g o o') (s id:Nat) (lo hi:Option AV):Zc5 s id lo hi o'=Zc5 s id lo hi o:=by
 rcases Zc0 h with ⟨s,xs,e,f,e',f',rfl,rfl⟩ | ⟨rfl,rfl⟩ | ⟨cs,rfl,rfl⟩ | ⟨s,n,xs,l,rfl,rfl⟩<;>rfl
theorem ZoP (h:ZcZ g o o') (s id off n:Nat) (lo hi:Option AV):Za8 s id off n lo hi o'=Za8 s id off n lo hi o:=by
 rcases Zc0 h with ⟨s,xs,e,f,e',f',rfl,rfl⟩ | ⟨rfl,rfl⟩ | ⟨cs,rfl,rfl⟩ | ⟨s,n,xs,l,rfl,rfl⟩<;>rfl
theorem ZmA {id i off:Nat} {l l' : Option (Nat×Nat×Nat)} {x:D} {v:AV} (h:Ze1 id i off l x=some v) (ho:okV v=true):Ze1 id i off l' x=some v∧∃ d,v=.d d:=by
 unfold Ze1 at h ⊢;split at h
 ·unfold ZvK at h;split at h
  ·split at h
   ·cases h;cases ho
   ·cases h
  ·cases h
 ·split at h
  ·rename_i hp;cases h;exact⟨by rw[Kh hp],_,rfl⟩
  ·cases h
 ·cases h
theorem Zj4 {id:Nat} (h:ZcZ g o o') {a:Bool} {s sz i off:Nat} {v:AV} (ho:okV v=true):Zbw id a s sz i off o'=some v↔Zbw id a s sz i off o=some v:=by
 rcases Zc0 h with ⟨s,xs,e,f,e',f',rfl,rfl⟩ | ⟨rfl,rfl⟩ | ⟨cs,rfl,rfl⟩ | ⟨s,n,xs,l,rfl,rfl⟩
 ·exact Iff.rfl
 ·exact Iff.rfl
 ·exact Iff.rfl
 ·simp only[Zbw];split
  ·split
   ·exact Iff.rfl
   ·constructor<;>intro hh<;>obtain⟨x,h1,hh⟩:=Za hh<;>rw[h1,Zg]<;>exact(ZmA hh ho).1
  ·exact Iff.rfl
end
section
variable {hp hp' : Hp} {g:List Nat}
def Zj5 (g:List Nat) (hp hp' : Hp) (v:AV):Prop:=∀ k∈ZD v,ZcZ g (lkp hp k) (lkp hp' k)
theorem ZeX {v:AV} (h:Zj5 g hp hp' v):Zef hp' v=Zef hp v:=by
 cases v<;>simp only[Zef]
 case d x=>cases x<;>rfl
 case own id=>rw[Zxl (h id (by simp[ZD,ZE,Zn]))]
theorem Zb1 {v:AV} (h:Zj5 g hp hp' v) (sz n:Nat):QB hp' sz n v=QB hp sz n v:=by
 cases v<;>simp only[QB]
 case d x=>cases x<;>rfl
 case own id=>rw[ZtY (h id (by simp[ZD,ZE,Zn]))]
 case ownv id off n=>rw[Zq8 (h id (by simp[ZD,ZE,Zn]))]
theorem Zg1 {v:AV} (h:Zj5 g hp hp' v) (s:Nat) (lo hi:Option AV):WA hp' s lo hi v=WA hp s lo hi v:=by
 cases v<;>simp only[WA]
 case d x=>cases x<;>rfl
 case own id=>rw[Zq9 (h id (by simp[ZD,ZE,Zn]))]
 case ownv id off n=>rw[ZoP (h id (by simp[ZD,ZE,Zn]))]
theorem ZzC {x v:AV} (hs:Zj5 g hp hp' x) {a:Bool} {s:Nat} (h:UV hp a s x=some v) (ho:okV v=true) (hk:kill g v=v):UV hp' a s x=some v:=by
 cases x<;>simp only[UV] at h ⊢ <;> first | (cases h;done) | skip
 case ptr id off=>
  rcases Zc0 (hs id (by simp[ZD,ZE,Zn])) with ⟨_,_,_,_,_,_,e1,e2⟩ | ⟨e1,e2⟩ | ⟨cs,e1,e2⟩ | ⟨_,_,_,_,e1,e2⟩
  ·rw[e1] at h;cases h
  ·rw[e1] at h;cases h
  ·rw[e1] at h;rw[e2];exact Zvy h ho hk
  ·rw[e1] at h;cases h
 case prow id sz i off=>exact(Zj4 (hs id (by simp[ZD,ZE,Zn])) ho).2 h
 case pim cs=>exact h
theorem ZzD {id:Nat} {a:Bool} {s sz i off:Nat} {o:Option Zm} {v:AV} (h:Zbw id a s sz i off o=some v) (ho:okV v=true):∃ d,v=.d d:=by
 unfold Zbw at h;split at h
 ·split at h
  ·obtain⟨x,_,h⟩:=Za h;unfold Zj9 at h;split at h
   ·unfold Zeh at h;split at h
    ·split at h
     ·cases h;exact⟨_,rfl⟩
     ·cases h
    ·unfold asD at h;obtain⟨y,_,h⟩:=Za h;cases h;exact⟨_,rfl⟩
   ·cases h
  ·cases h
 ·split at h
  ·split at h
   ·cases h
   ·obtain⟨x,_,h⟩:=Za h;exact(ZmA (l':=none) h ho).2
  ·cases h
 ·cases h
theorem ZAY {a:Bool} {s off:Nat} {cs:List D} {v:AV} (h:Zeh a s off cs=some v):∃ d,v=.d d:=by
 unfold Zeh at h;split at h
 ·split at h
  ·cases h;exact⟨_,rfl⟩
  ·cases h
 ·unfold asD at h;obtain⟨y,_,h⟩:=Za h;cases h;exact⟨_,rfl⟩
theorem ZzE {x v:AV} (hs:Zj5 g hp hp' x) {a:Bool} {s:Nat} (h:UV hp' a s x=some v) (ho:okV v=true):UV hp a s x=some v∧kill g v=v:=by
 cases x<;>simp only[UV] at h ⊢ <;> first | (cases h;done) | skip
 case ptr id off=>
  rcases Zc0 (hs id (by simp[ZD,ZE,Zn])) with ⟨_,_,_,_,_,_,e1,e2⟩ | ⟨e1,e2⟩ | ⟨cs,e1,e2⟩ | ⟨_,_,_,_,e1,e2⟩
  ·rw[e2] at h;cases h
  ·rw[e2] at h;cases h
  ·rw[e2] at h;rw[e1];exact Zvz h ho
  ·rw[e2] at h;cases h
 case prow id sz i off=>
  have h:=(Zj4 (hs id (by simp[ZD,ZE,Zn])) ho).1 h;obtain⟨d,rfl⟩:=ZzD h ho;exact⟨h,rfl⟩
 case pim cs=>
  obtain⟨d,rfl⟩:=ZAY h;exact⟨h,rfl⟩
theorem ZmB {x:AV} {d:D} {e:Bool} (h:Zcl hp x=some (d,e,[])) (hp' : Hp):Zcl hp' x=some (d,e,[]):=by
 cases x<;>simp only[Zcl] at h ⊢ <;> first | exact h | skip
 case own id=>obtain⟨q,_,h⟩:=Za h;simp at h
theorem ZmC:∀ {xs:List AV} {d:List D} {e:Bool},WF hp xs=some (d,e,[])→∀ hp' : Hp,WF hp' xs=some (d,e,[])
 | [],d,e,h,hp'=>h
 | x :: xs,d,e,h,hp'=>by
  simp only[WF] at h ⊢;obtain⟨⟨d1,e1,l1⟩,h1,h⟩:=Za h;obtain⟨⟨d2,e2,l2⟩,h2,h⟩:=Za h;have hl:l1=[]∧l2=[]:=by
   simp only at h;split at h
   ·simp only[Option.some.injEq,Prod.mk.injEq,LU] at h;exact h.2.2
   ·cases h
  obtain⟨rfl,rfl⟩:=hl;rw[ZmB h1 hp',Zg,ZmC h2 hp',Zg];exact h
theorem Zxm {x:AV} {d:D} {e:Bool} (h:give hp x=some (d,e,[])) (hp' : Hp):give hp' x=some (d,e,[]):=by
 cases x<;>simp only[give] at h ⊢ <;> first | exact ZmB h hp' | skip
 case agg cs=>
  obtain⟨⟨d1,e1,l1⟩,h1,h⟩:=Za h;simp only[Option.some.injEq,Prod.mk.injEq] at h;obtain⟨rfl,rfl,rfl⟩:=h;rw[ZmC h1 hp',Zg]
theorem ZiJ:∀ {xs:List AV} {d:List D} {e:Bool},Ug hp xs=some (d,e,[])→∀ hp' : Hp,Ug hp' xs=some (d,e,[])
 | [],d,e,h,hp'=>h
 | x :: xs,d,e,h,hp'=>by
  simp only[Ug] at h ⊢;obtain⟨⟨d1,e1,l1⟩,h1,h⟩:=Za h;obtain⟨⟨d2,e2,l2⟩,h2,h⟩:=Za h;have hl:l1=[]∧l2=[]:=by
   simp only at h;split at h
   ·simp only[Option.some.injEq,Prod.mk.injEq,LU] at h;exact h.2.2
   ·cases h
  obtain⟨rfl,rfl⟩:=hl;rw[Zxm h1 hp',Zg,ZiJ h2 hp',Zg];exact h
theorem ZiK {base s:Nat} {vs:List AV} {ce:Zd} (h:buildSl hp base s vs=some ce) (hf:ce.eff.frz=[]) (hp' : Hp) :
  buildSl hp' base s vs=some ce∧(ce.eff.val=.nil∨ce.eff.val=.own base)∧(∀ k o,(k,o)∈ce.eff.adds→∃ sz xs e f,o=.row sz xs e f):=by
 cases vs with
 | nil=>simp only[buildSl,QN] at h ⊢;cases h;exact⟨rfl,.inl rfl,fun k o h=>by simp at h⟩
 | cons v vs=>
  simp only[buildSl] at h ⊢;obtain⟨⟨ds,e,l⟩,h1,h⟩:=Za h;unfold Zxs at h;split at h
  ·rename_i hc;cases h;simp only at hf;subst hf;rw[ZiJ h1 hp',Zg];refine⟨?_,.inr rfl,fun k o ho=>?_⟩
   ·unfold Zxs;rw[Kh hc]
   ·simp at ho;obtain⟨rfl,rfl⟩:=ho;exact⟨_,_,_,_,rfl⟩
  ·cases h
end
theorem Zj6 {C:Orc} {M:Zp} {sl:Sl} {hp hp' : Hp} {base:Nat} {c:COp} (hc:WX c=true):vop C M sl hp base c=vop C M sl hp' base c:=by
 cases c<;>first | rfl | (simp[WX] at hc)
section
variable {C:Orc} {M:Zp} {sl sl' : Sl} {hp hp' : Hp} {base:Nat} {g:List Nat}
theorem Qh {v:AV} {ce:Zd} (h:QN v=some ce):ce.eff.adds=[]:=by cases h;rfl
theorem QY {v:Option AV} {ce:Zd} (h:WB v=some ce):ce.eff.adds=[]:=by obtain⟨v,_,h⟩:=Za h;exact Qh h
theorem ZbJ {v:Option AV} {ce:Zd} (h:WB v=some ce):v=some ce.eff.val:=by obtain⟨v,rfl,h⟩:=Za h;cases h;rfl
theorem ZyC {v:Option AV} {ce:Zd} {w:Option AV} (h:WB v=some ce) (hw:w=some ce.eff.val):WB w=some ce:=by
 obtain⟨v,rfl,h⟩:=Za h;cases h;rw[hw];rfl
theorem Zxn {c:COp} (hc:WX c=true) (hv:ZxG c=true) {ce:Zd} (h:vop C M sl hp base c=some ce):ce.eff.adds=[]:=by
 cases c<;>simp only[WX,ZxG,Ka] at hc hv<;>simp only[vop] at h
 case stuck=>cases h
 case move x=>exact Qh h
 case pick c a b=>
  unfold ZgF at h;split at h
  ·split at h<;>exact Qh h
  ·cases h
 case build zs ps=>obtain⟨cs,_,h⟩:=Za h;exact Qh h
 case nilCheck x=>unfold J9 at h;split at h<;>first | exact Qh h | cases h
 case bin op eq x y=>
  unfold Zm7 at h;split at h
  ·split at h
   ·exact QY h
   ·cases h
  ·exact QY h
 case un op x=>exact QY h
 case eqA neg n x y=>
  unfold Zrd at h;split at h
  ·obtain⟨r,_,h⟩:=Za h;exact Qh h
  ·cases h
 case convI k x=>unfold Go.Abs.convI at h;split at h<;>first | exact Qh h | cases h
 case convS x=>unfold Go.Abs.convS at h;split at h<;>first | exact Qh h | cases h
 case sliceS x lo hi=>exact QY h
 case shift off x=>unfold VR at h;split at h<;>first | exact Qh h | cases h
 case part g s off x=>exact QY h
 case iaA len s x i=>
  obtain⟨n,_,h⟩:=Za h;unfold ZmI at h;split at h
  ·unfold VR at h;split at h<;>first | exact Qh h | cases h
  ·cases h
 case ixS x i=>
  obtain⟨n,_,h⟩:=Za h;unfold ZvN at h;split at h
  ·unfold ZsR at h;split at h
   ·obtain⟨b,_,h⟩:=Za h;exact Qh h
   ·cases h
  ·cases h
 case ixA g s len x i=>
  obtain⟨n,_,h⟩:=Za h;unfold Zxt at h;split at h
  ·exact QY h
  ·cases h
 case nth i x=>unfold Zt6 at h;split at h<;>first | exact QY h | cases h
 case lenS x=>obtain⟨n,_,h⟩:=Za h;exact Qh h
 case min x y=>unfold Zkd at h;split at h<;>first | (split at h<;>first | exact Qh h | cases h) | cases h
 case max x y=>unfold Zke at h;split at h<;>first | (split at h<;>first | exact Qh h | cases h) | cases h
theorem ZmD {c:AV} (h:Zen c=true):ZV g c=c:=by cases c<;>first | rfl | cases h
theorem ZfJ:∀ {cs:List AV},Wb cs=true→∀ c∈cs,Zen c=true
 | [],_,c,hc=>by simp at hc
 | x :: l,h,c,hc=>by
  simp only[Wb,Kf] at h;rcases Kd.1 hc with rfl | hc
  ·exact h.1
  ·exact ZfJ h.2 c hc
theorem Zli:∀ (slc:List (Option Nat)) (cs:List AV) (b:Nat),(∀ c∈(mat slc cs b).1,c∈cs∨∃ k o,c=.own k∧(k,o)∈(mat slc cs b).2)∧∀ k o,(k,o)∈(mat slc cs b).2→∃ sz,o=.row sz [] true false
 | [],cs,b=>by simp only[mat];exact⟨fun c hc=>.inl hc,fun k o h=>by simp at h⟩
 | t :: ts,[],b=>by cases t<;>(simp only[mat];exact⟨fun c hc=>.inl hc,fun k o h=>by simp at h⟩)
 | t :: ts,v :: vs,b=>by
  by_cases hv:(∃ sz,t=some sz)∧v=.nil
  ·obtain⟨⟨sz,rfl⟩,rfl⟩:=hv;obtain⟨h1,h2⟩:=Zli ts vs (b+1);simp only[mat];refine⟨fun c hc=>?_,fun k o h=>?_⟩
   ·rcases Kd.1 hc with rfl | hc
    ·exact .inr ⟨b,_,rfl,K5 ..⟩
    ·rcases h1 c hc with h | ⟨k,o,e,h⟩
     ·exact .inl (KA _ h)
     ·exact .inr ⟨k,o,e,KA _ h⟩
   ·rcases Kd.1 h with h | h
    ·cases h;exact⟨_,rfl⟩
    ·exact h2 k o h
  ·obtain⟨h1,h2⟩:=Zli ts vs b;have e:mat (t :: ts) (v :: vs) b=(v :: (mat ts vs b).1,(mat ts vs b).2):=by
    cases t with
    | none=>simp[mat]
    | some sz=>cases v<;>first | (exact absurd ⟨⟨sz,rfl⟩,rfl⟩ hv) | simp[mat]
   rw[e];refine⟨fun c hc=>?_,h2⟩;rcases Kd.1 hc with rfl | hc
   ·exact .inl (K5 ..)
   ·rcases h1 c hc with h | h
    ·exact .inl (KA _ h)
    ·exact .inr h
theorem ZsF {base:Nat}:∀ {cs:List AV},Wb cs=true→cs.map (Zje base)=cs
 | [],_=>rfl
 | c :: cs,h=>by
  simp only[Wb,Kf] at h;rw[Kj,ZsF h.2];congr 1
  cases c<;>first | rfl | (simp[Zen] at h)
theorem ZsG:∀ {cs:List AV},Wb cs=true→XY cs=true
 | [],_=>rfl
 | c :: cs,h=>by
  simp only[Wb,Kf] at h;have:=ZsG h.2;cases c<;>first | exact this | (simp[Zen] at h)
theorem ZmE {slc:List (Option Nat)} {cs:List AV} {ce:Zd} (hb:∀ k,base≤k→k<base+64→k∉g) (hc:Wb cs=true) (h:ZfM slc base cs=some ce) (ad:QZ base (base+64) ce.eff.adds=true) :
  (∀ id∈ZD ce.eff.val,id∉g)∧∀ k o,(k,o)∈ce.eff.adds→XZ g o=o:=by
 have hr:=Ul ad;unfold ZfM at h;rw[ZsF hc] at h;unfold Zln at h;rw[Ke (by rw[ZsG hc];decide)] at h;split at h
 ·cases h;simp only at hr ⊢;obtain⟨h1,h2⟩:=Zli slc cs (base+1);refine⟨fun id aa=>?_,fun k o hm=>?_⟩
  ·simp[ZD,ZE,Zn] at aa;subst aa;exact hb _ (Kt _) (by omega)
  ·rcases Kd.1 hm with hm | hm
   ·cases hm;simp only[XZ];congr 1
    rw[KS (g:=id),Lu];intro c ab;rcases h1 c ab with h | ⟨k,o,rfl,h⟩
    ·exact ZmD (ZfJ hc c h)
    ·have:=hr k o (KA _ h);have hk:=hb k this.1 this.2;simp[ZV,Qf,hk]
   ·obtain⟨sz,rfl⟩:=h2 k o hm;rfl
 ·cases h;simp only at hr ⊢;refine⟨fun id aa=>?_,fun k o hm=>?_⟩
  ·simp[ZD,ZE,Zn] at aa;subst aa;exact hb _ (Kt _) (by omega)
  ·simp at hm;obtain⟨rfl,rfl⟩:=hm;simp only[XZ];congr 1
   rw[KS (g:=id),Lu];exact fun c ab=>ZmD (ZfJ hc c ab)
theorem ZzF {c:COp} (hc:Zpj c=true) (he:∀ x∈ZL c,evO sl' x=evO sl x) (hs:∀ x∈ZL c,Zj5 g hp hp' (evO sl x)) {ce:Zd}
  (hb:∀ k,base≤k→k<base+64→k∉g) (h:vop C M sl hp base c=some ce) (ab:QZ base (base+64) ce.eff.adds=true) (ad:ce.eff.frz=[]) (ho:okV ce.eff.val=true) (hk:kill g ce.eff.val=ce.eff.val):vop C M sl' hp' base c=some ce∧∀ k o,(k,o)∈ce.eff.adds→XZ g o=o:=by
 rw[Xl C M hp' base he];have aa:ce.eff.adds=[]→∀ k o,(k,o)∈ce.eff.adds→XZ g o=o:=fun e k o hm=>by rw[e] at hm;simp at hm
 simp only[Zpj,Lk,Kf] at hc;rcases hc with ((hc | hc) | ⟨hc1,hc2⟩) | hc
 ·cases c<;>simp only[Zae,Ka] at hc<;>simp only[vop] at h ⊢ <;> simp only[ZL] at hs
  case load a s x=>exact⟨ZyC h (ZzC (hs x (by simp)) (ZbJ h) ho hk),aa (QY h)⟩
  case slice s x lo hi=>
   rw[Zg1 (hs x (by simp))];exact⟨h,aa (QY h)⟩
  case slice0 x hi mx=>
   unfold slice0 at h ⊢;rw[ZeX (hs x (by simp))];exact⟨h,aa (QY h)⟩
  case iaS s x i=>
   obtain⟨n,h1,h⟩:=Za h;rw[h1,Zg];unfold Zhb at h ⊢;rw[Zb1 (hs x (by simp))];refine⟨h,aa ?_⟩;split at h
   ·exact QY h
   ·cases h
  case len x=>
   rw[ZeX (hs x (by simp))];refine⟨h,aa ?_⟩;obtain⟨n,_,h⟩:=Za h;exact Qh h
 ·cases c<;>simp only[ZsU,Ka] at hc
  simp only[vop] at h ⊢;obtain⟨h1,h2,h3⟩:=ZiK h ad hp';refine⟨h1,fun k o hm=>?_⟩;obtain⟨sz,xs,e,f,rfl⟩:=h3 k o hm;rfl
 ·rw[← Zj6 (hp:=hp) hc1];exact⟨h,aa (Zxn hc1 hc2 h)⟩
 ·cases c<;>simp only[Zog,Ka] at hc
  simp only[vop] at h ⊢;exact⟨h,(ZmE hb hc h ab).2⟩
theorem Zxo {c:COp} (hc:Zkj c=true) (he:∀ x∈ZL c,evO sl' x=evO sl x) (hs:∀ x∈ZL c,Zj5 g hp hp' (evO sl x)) {ce:Zd}
  (hn:∀ x∈ZL c,∀ id∈ZD (evO sl x),id∉g) (hb:∀ k,base≤k→k<base+64→k∉g)
  (h:vop C M sl' hp' base c=some ce) (ad:QZ base (base+64) ce.eff.adds=true) (ae:ce.eff.frz=[]) (ho:okV ce.eff.val=true):vop C M sl hp base c=some ce∧kill g ce.eff.val=ce.eff.val∧∀ k o,(k,o)∈ce.eff.adds→XZ g o=o:=by
 rw[Xl C M hp' base he] at h;have aa:ce.eff.adds=[]→∀ k o,(k,o)∈ce.eff.adds→XZ g o=o:=fun e k o hm=>by rw[e] at hm;simp at hm
 have names:(∀ id∈ZD ce.eff.val,id∉g)→kill g ce.eff.val=ce.eff.val:=ZyB ho;cases c<;>simp only[Zkj,Ka] at hc<;>simp only[vop] at h ⊢ <;> simp only[ZL] at hs hn
 case alloc slc cs=>
  obtain⟨h1,h2⟩:=ZmE hb hc h ad;exact⟨h,names h1,h2⟩
 case buildSl s xs=>
  obtain⟨h1,h2,h3⟩:=ZiK h ae hp;refine⟨h1,names fun id ab=>?_,fun k o hm=>?_⟩
  ·rcases h2 with h2 | h2
   ·rw[h2] at ab;simp[ZD,ZE,Zn] at ab
   ·rw[h2] at ab;simp[ZD,ZE,Zn] at ab;subst ab;exact hb _ (Kt _) (by omega)
  ·obtain⟨sz,xs,e,f,rfl⟩:=h3 k o hm;rfl
 case load a s x=>
  obtain⟨h1,h2⟩:=ZzE (hs x (by simp)) (ZbJ h) ho;exact⟨ZyC h h1,h2,aa (QY h)⟩
 case nilCheck x=>
  have hx:=hn x (by simp);refine⟨h,names ?_,aa ?_⟩
  ·unfold J9 at h;split at h<;>rename_i hv<;>first | (cases h;done) | (cases h;show ∀ id∈ZD _,_;rw[← hv];exact hx)
  ·unfold J9 at h;split at h<;>first | exact Qh h | cases h
 case bin op eq x y=>
  have hd:∃ d,ce.eff.val=.d d:=by
   have o2:∀ {a b:AV},WB (vbin op a b)=some ce→∃ d,ce.eff.val=.d d:=fun {a b} h=>by
    have h1:=ZbJ h;unfold vbin at h1;split at h1
    ·unfold J3 at h1;split at h1
     ·obtain⟨y,_,h1⟩:=Za h1;exact⟨_,(Option.some.inj h1).symm⟩
     ·obtain⟨y,_,h1⟩:=Za h1;exact⟨_,(Option.some.inj h1).symm⟩
     ·split at h1
      ·obtain⟨y,_,h1⟩:=Za h1;have:=Option.some.inj h1;exact⟨_,this.symm⟩
      ·cases h1
    ·obtain⟨y,_,h1⟩:=Za h1;have:=Option.some.inj h1;exact⟨_,this.symm⟩
    ·cases h1
   unfold Zm7 at h;split at h
   ·split at h
    ·have h1:=ZbJ h;unfold Zso at h1;split at h1
     ·exact⟨_,(Option.some.inj h1).symm⟩
     ·exact⟨_,(Option.some.inj h1).symm⟩
     ·cases h1
    ·cases h
   ·exact o2 h
  obtain⟨d,hd⟩:=hd;refine⟨h,by rw[hd];rfl,aa ?_⟩;unfold Zm7 at h;split at h
  ·split at h
   ·exact QY h
   ·cases h
  ·exact QY h
 case un op x=>
  have hd:∃ d,ce.eff.val=.d d:=by
   have h1:=ZbJ h;unfold vun at h1;split at h1
   ·unfold neg1 at h1;split at h1
    ·exact⟨_,(Option.some.inj h1).symm⟩
    ·cases h1
   ·unfold not1 at h1;split at h1
    ·exact⟨_,(Option.some.inj h1).symm⟩
    ·cases h1
   ·cases h1
  obtain⟨d,hd⟩:=hd;exact⟨h,by rw[hd];rfl,aa (QY h)⟩
 case convI k x=>
  unfold Go.Abs.convI at h ⊢;split at h
  ·exact⟨h,by cases h;rfl,aa (Qh h)⟩
  ·cases h
 case shift off x=>
  have hx:=hn x (by simp);refine⟨h,names ?_,aa ?_⟩
  ·unfold VR at h;split at h<;>rename_i hv<;>first | (cases h;done) | skip
   ·cases h;rw[hv] at hx;simpa [ZD,ZE,Zn] using hx
   ·cases h;rw[hv] at hx;simpa [ZD,ZE,Zn] using hx
   ·cases h;simp[ZD,ZE,Zn]
  ·unfold VR at h;split at h<;>first | exact Qh h | cases h
 case slice s x lo hi=>
  have hx:=hn x (by simp);rw[Zg1 (hs x (by simp))] at h;refine⟨h,names ?_,aa (QY h)⟩;have h1:=ZbJ h;cases hv:evO sl x<;>rw[hv] at h1 hx<;>simp only[WA] at h1<;>first | (cases h1;done) | skip
  case d y=>
   cases y<;>simp only[WA] at h1<;>first | (cases h1;done) | skip
   split at h1
   ·obtain⟨b,_,h1⟩:=Za h1;rw[← Option.some.inj h1];simp[ZD,ZE,Zn]
   ·cases h1
  case nil=>obtain⟨b,_,h1⟩:=Za h1;rw[← Option.some.inj h1];simp[ZD,ZE,Zn]
  case own id=>
   unfold Zc5 at h1;split at h1
   ·split at h1
    ·unfold ZvM at h1;split at h1
     ·rw[← Option.some.inj h1];exact hx
     ·obtain⟨b,_,h1⟩:=Za h1;rw[← Option.some.inj h1];simpa [ZD,ZE,Zn] using hx
    ·cases h1
   ·cases h1
  case ownv id off n=>
   unfold Za8 at h1;split at h1
   ·split at h1
    ·obtain⟨b,_,h1⟩:=Za h1;rw[← Option.some.inj h1];simpa [ZD,ZE,Zn] using hx
    ·cases h1
   ·cases h1
 case sliceS x lo hi=>
  have hd:∃ d,ce.eff.val=.d d:=by
   have h1:=ZbJ h;unfold sliceS at h1;split at h1
   ·obtain⟨b,_,h1⟩:=Za h1;exact⟨_,(Option.some.inj h1).symm⟩
   ·cases h1
  obtain⟨d,hd⟩:=hd;exact⟨h,by rw[hd];rfl,aa (QY h)⟩
 case lenS x=>
  obtain⟨n,h1,h⟩:=Za h;refine⟨by rw[h1,Zg];exact h,by cases h;rfl,aa (Qh h)⟩
 case iaS s x i=>
  have hx:=hn x (by simp);obtain⟨n,h1,h⟩:=Za h;rw[h1,Zg];unfold Zhb at h ⊢;rw[Zb1 (hs x (by simp))] at h;refine⟨h,names ?_,aa ?_⟩
  ·split at h
   ·have h1:=ZbJ h;cases hv:evO sl x<;>rw[hv] at h1 hx<;>simp only[QB] at h1<;>first | (cases h1;done) | skip
    case d y=>
     cases y<;>simp only[QB] at h1<;>first | (cases h1;done) | skip
     obtain⟨b,_,h1⟩:=Za h1;unfold ZyK at h1;split at h1
     ·rw[← Option.some.inj h1];simp[ZD,ZE,Zn]
     ·cases h1
    case own id=>
     unfold ZdX at h1;split at h1
     ·split at h1
      ·rw[← Option.some.inj h1];simpa [ZD,ZE,Zn] using hx
      ·cases h1
     ·split at h1
      ·rw[← Option.some.inj h1];simpa [ZD,ZE,Zn] using hx
      ·cases h1
     ·cases h1
    case ownv id off n=>
     unfold Zc4 at h1;split at h1
     ·split at h1
      ·rw[← Option.some.inj h1];simpa [ZD,ZE,Zn] using hx
      ·cases h1
     ·cases h1
   ·cases h
  ·split at h
   ·exact QY h
   ·cases h
 case len x=>
  rw[ZeX (hs x (by simp))] at h;obtain⟨n,h1,h2⟩:=Za h;exact⟨h,by cases h2;rfl,aa (Qh h2)⟩
end
end Go.Abs
