/- Own text. -/
import Derived.Test.YtcefneehgbiebaaGreatDoorAbsDraw3
import Derived.Test.YtcefneehgbiebaaGreatDoorAbsSound5
set_option linter.unusedVariables false
set_option linter.unusedSimpArgs false
namespace Go.Abs
open Go
theorem ZyQ {v:AV} (h:okC v=true):okV v=true:=by
 cases v<;>first | exact h | cases h
theorem Zn6 {g:List Nat} {v:AV} (h:okC (Qg g v)=true):Qg g v=v:=by
 cases v<;>simp only[Qg] at h ⊢ <;> first | rfl | (split at h<;>rename_i h' <;> first | (cases h;done) | rw[Kd h'])
theorem ZlB {g:List Nat}:∀ {cs:List AV},Zu6 (cs.map (Qg g))=true→cs.map (Qg g)=cs
 | [],_=>rfl
 | c :: cs,h=>by
  simp only[Kk,Zu6,Kf] at h ⊢;rw[Zn6 h.1,ZlB h.2]
theorem ZfE {g:List Nat} {v:AV} (h:okV (ZX g v)=true):ZX g v=v:=by
 cases v with
 | agg cs=>simp only[ZX,okV] at h ⊢;rw[ZlB h]
 | clo f cs=>simp only[ZX,okV,okC] at h;cases h
 | tup vs=>rfl
 | _=>
  simp only[ZX] at h ⊢;refine Zn6 ?_;revert h;simp only[Qg]
  first | exact id | (split<;>first | exact id | (intro h;cases h))
theorem ZdC {g:List Nat} {v:AV} (h:okV (kill g v)=true):kill g v=v:=by
 cases v with
 | tup vs=>
  cases vs with
  | nil=>rfl
  | cons x r=>simp only[kill,Kk,okV,okC] at h;cases h
 | _=>simp only[kill] at h ⊢;exact ZfE h
theorem Zwg {g:List Nat} {v:AV} (hn:∀ id∈Zn v,id∉g):Qg g v=v:=by
 cases v<;>simp only[Qg]<;>first | rfl | (rw[Kd];simpa [Zn] using hn)
theorem ZyR {g:List Nat} {v:AV} (h:okV v=true) (hn:∀ id∈ZC v,id∉g):kill g v=v:=by
 cases v with
 | tup vs=>
  cases vs with
  | nil=>rfl
  | cons x r=>simp only[okV,okC] at h;cases h
 | clo f cs=>simp only[okV,okC] at h;cases h
 | agg cs=>
  simp only[kill,ZX];congr 1
  rw[KS (g:=id),Lu];intro c hc;exact Zwg fun id aa=>hn id (by simp only[ZC,ZD,Ky];exact⟨c,hc,aa⟩)
 | _=>simp only[kill,ZX];exact Zwg hn
theorem ZBh {g:List Nat} {v:AV} (h:kill g v=v):∀ id∈ZC v,id∉g:=fun id aa=>(Zn0 g v id (by rw[h];exact aa)).2
theorem ZzT {g:List Nat} {c:AV} (h:okC c=true) (h1:Qg g c=c):ZX g c=c:=by
 cases c<;>simp only[ZX]<;>first | exact h1 | cases h
def ZdD (g:List Nat):Option Zm→Option Zm→Prop
 | none,none=>True
 | some (.row s xs _ _),some (.row s' xs' _ _)=>s'=s∧xs'=xs
 | some (.box cs),some (.box cs')=>cs'=cs.map (ZX g)
 | some (.deep s n xs l),some (.deep s' n' xs' l')=>s'=s∧n'=n∧xs'=xs∧l'=Zi1 g l
 | _,_=>False
theorem Zwh {g:List Nat} {b:Bool} (o:Option Zm):ZdD g o ((o.map (X4 g)).map fun o=>if b then V9 o else o):=by
 cases o with
 | none=>trivial
 | some o=>cases o<;>cases b<;>exact(by first | exact⟨rfl,rfl⟩ | exact rfl | exact⟨rfl,rfl,rfl,rfl⟩)
theorem ZtE {g:List Nat}:∀ {l:List AV} {ds:List D},ZgH l=some ds→l.map (ZX g)=l
 | [],ds,_=>rfl
 | v :: l,ds,h=>by
  simp only[ZgH] at h;obtain⟨x,h1,h⟩:=Za h;obtain⟨aa,h2,h⟩:=Za h;have:ZX g v=v:=by cases v<;>first | rfl | cases h1
  rw[Kk,this,ZtE h2]
theorem Zrm {g:List Nat}:∀ {l:List AV} {ds:List D},ZgH (l.map (ZX g))=some ds→l.map (ZX g)=l
 | [],ds,_=>rfl
 | v :: l,ds,h=>by
  simp only[Kk,ZgH] at h;obtain⟨x,h1,h⟩:=Za h;obtain⟨aa,h2,h⟩:=Za h;have hv:ZX g v=v:=by
   refine ZfE ?_;cases hk:ZX g v<;>rw[hk] at h1<;>first | rfl | cases h1
  rw[Kk,hv,Zrm h2]
theorem Zi8 (l:List AV):(∃ ds,ZgH l=some ds∧ZaJ l=.d (.agg ds))∨(ZgH l=none∧(ZaJ l=.junk∨ZaJ l=.agg l)):=by
 unfold ZaJ;cases h:ZgH l with
 | some ds=>exact .inl ⟨ds,rfl,rfl⟩
 | none=>
  refine .inr ⟨rfl,?_⟩;unfold Jz;split
  ·rename_i h;cases h
  ·split
   ·exact .inl rfl
   ·exact .inr rfl
theorem ZmR:∀ {l:List AV},Zu6 l=true→∀ c∈l,okC c=true
 | [],_,c,hc=>by simp at hc
 | x :: l,h,c,hc=>by
  simp only[Zu6,Kf] at h;rcases Ke.1 hc with rfl | hc
  ·exact h.1
  ·exact ZmR h.2 c hc
theorem ZzU {g:List Nat} {l:List AV} (h:okV (ZaJ l)=true) (hk:kill g (ZaJ l)=ZaJ l):l.map (ZX g)=l:=by
 rcases Zi8 l with ⟨ds,h1,h2⟩ | ⟨h1,h2 | h2⟩
 ·exact ZtE h1
 ·rw[h2] at h;cases h
 ·rw[h2] at h hk;simp only[kill,ZX,AV.agg.injEq] at hk;simp only[okV] at h;have hm:=ZmR h;have aa : ∀ c∈l,Qg g c=c:=by
   intro c hc;have:=ZlB (g:=g) (cs:=l) (by rw[hk];exact h);exact Zn6 (by
    have h3:Qg g c∈l.map (Qg g):=L5 hc;rw[hk] at h3;exact hm _ h3)
  rw[KS (g:=id),Lu];intro c hc;exact ZzT (hm c hc) (aa c hc)
theorem ZzV {g:List Nat} {l:List AV} (h:okV (ZaJ (l.map (ZX g)))=true):l.map (ZX g)=l:=by
 rcases Zi8 (l.map (ZX g)) with ⟨ds,h1,h2⟩ | ⟨h1,h2 | h2⟩
 ·exact Zrm h1
 ·rw[h2] at h;cases h
 ·rw[h2] at h;simp only[okV] at h;have hm:=ZmR h;rw[KS (g:=id),Lu];intro c hc;exact ZfE (ZyQ (hm _ (L5 hc)))
theorem ZxL {g:List Nat} {v:AV} (h:okV v=true) (hk:kill g v=v):ZX g v=v:=by
 cases v with
 | tup vs=>rfl
 | _=>simp only[kill] at hk;exact hk
theorem ZxM {g:List Nat} {v:AV} (h:okV v=true) (hk:ZX g v=v):kill g v=v:=by
 cases v with
 | tup vs=>
  cases vs with
  | nil=>rfl
  | cons x r=>simp only[okV,okC] at h;cases h
 | _=>simp only[kill];exact hk
theorem Zk7 {α β:Type} (f:α→β) (l:List α) (a b:Nat):((l.map f).drop a).take b=((l.drop a).take b).map f:=by
 rw[← List.map_drop,← List.map_take]
theorem ZoZ (g:List Nat) (c:AV):ZmX (ZX g c)=ZX g (ZmX c):=by
 have aa:∀ v:AV,(∀ a b,v≠.bbuf a b)→ZmX v=v:=fun v h'=>by cases v<;>first | rfl | exact absurd rfl (h' _ _)
 by_cases h' : ∃ a b,c=.bbuf a b
 ·obtain⟨a,b,rfl⟩:=h';rfl
 ·have h2:∀ a b,c≠.bbuf a b:=fun a b e=>h' ⟨a,b,e⟩;rw[aa c h2,aa];exact fun a b e=>h2 a b ((JQ g c a b).1 e)
theorem Zwi {g:List Nat} {cs:List AV} {a:Bool} {s off:Nat} {v:AV} (h:ZbG a s off (some (.box cs))=some v) (ho:okV v=true) (hk:kill g v=v):ZbG a s off (some (.box (cs.map (ZX g))))=some v:=by
 unfold ZbG at h ⊢;cases a with
 | true=>
  simp only[Km] at h ⊢;split at h
  ·rename_i hl;cases h;rw[Kh (by simpa using hl),Zk7,ZzU ho hk]
  ·cases h
 | false=>
  simp only[Ka,Kq] at h ⊢;obtain⟨c,hc,rfl⟩:=Option.map_eq_some_iff.1 h;rw[KX,hc];simp only[KJ];rw[ZoZ,ZxL ho hk]
theorem Zwj {g:List Nat} {cs:List AV} {a:Bool} {s off:Nat} {v:AV} (h:ZbG a s off (some (.box (cs.map (ZX g))))=some v) (ho:okV v=true):ZbG a s off (some (.box cs))=some v∧kill g v=v:=by
 unfold ZbG at h ⊢;cases a with
 | true=>
  simp only[Km] at h ⊢;split at h
  ·rename_i hl;cases h;rw[Zk7] at ho ⊢;have he:=ZzV ho;rw[he] at ho ⊢;refine⟨by rw[Kh (by simpa using hl)],?_⟩;rcases Zi8 ((cs.drop off).take s) with ⟨ds,h1,h2⟩ | ⟨h1,h2 | h2⟩
   ·rw[h2];rfl
   ·rw[h2] at ho;cases ho
   ·rw[h2] at ho ⊢;simp only[okV] at ho;have hm:=ZmR ho;simp only[kill,ZX,AV.agg.injEq];rw[KS (g:=id),Lu];intro c hc;have h3:ZX g c=c:=by
     refine ZfE ?_;have h4:ZX g c∈((cs.drop off).take s).map (ZX g):=L5 hc;rw[he] at h4;exact ZyQ (hm _ h4)
    have:=hm c hc;cases c<;>first | exact h3 | cases this
  ·cases h
 | false=>
  simp only[Ka,Kq] at h ⊢;rw[KX] at h;cases hc:cs[off]? with
  | none=>rw[hc] at h;cases h
  | some c=>
   rw[hc] at h;simp only[KJ,Option.some.injEq] at h;rw[ZoZ] at h;have h3:ZX g (ZmX c)=ZmX c:=ZfE (by rw[h];exact ho);rw[h3] at h;subst h;exact⟨rfl,ZxM ho h3⟩
theorem ZxN {g:List Nat} {o o' : Option Zm} (h:ZdD g o o'):ZaK o'=ZaK o:=by
 cases o with
 | none=>cases o' with
  | none=>rfl
  | some o'=>cases h
 | some o=>cases o' with
  | none=>cases o<;>cases h
  | some o'=>cases o<;>cases o' <;> simp only[ZdD] at h<;>first | (cases h;done) | rfl | (obtain⟨rfl,rfl⟩:=h;rfl) | (obtain⟨_,_,rfl,_⟩:=h;rfl)
theorem ZdE {g:List Nat} {o o' : Option Zm} (h:ZdD g o o'):(∃ s xs e f e' f',o=some (.row s xs e f)∧o'=some (.row s xs e' f'))∨(o=none∧o'=none)∨(∃ cs,o=some (.box cs)∧o'=some (.box (cs.map (ZX g))))∨(∃ s n xs l,o=some (.deep s n xs l)∧o'=some (.deep s n xs (Zi1 g l))):=by
 cases o with
 | none=>cases o' with
  | none=>exact .inr (.inl ⟨rfl,rfl⟩)
  | some o'=>cases h
 | some o=>cases o' with
  | none=>cases o<;>cases h
  | some o' =>
   cases o with
   | box cs=>cases o' with
    | box cs'=>simp only[ZdD] at h;subst h;exact .inr (.inr (.inl ⟨cs,rfl,rfl⟩))
    | row _ _ _ _=>cases h
    | deep _ _ _ _=>cases h
   | row s xs e f=>cases o' with
    | box cs'=>cases h
    | row s' xs' e' f'=>simp only[ZdD] at h;obtain⟨rfl,rfl⟩:=h;exact .inl ⟨_,_,_,_,_,_,rfl,rfl⟩
    | deep _ _ _ _=>cases h
   | deep s n xs l=>cases o' with
    | box cs'=>cases h
    | row _ _ _ _=>cases h
    | deep s' n' xs' l'=>simp only[ZdD] at h;obtain⟨rfl,rfl,rfl,rfl⟩:=h;exact .inr (.inr (.inr ⟨_,_,_,_,rfl,rfl⟩))
section
variable {g:List Nat} {o o' : Option Zm}
theorem ZuM (h:ZdD g o o') (sz id n:Nat):Zej sz id n o'=Zej sz id n o:=by
 rcases ZdE h with ⟨s,xs,e,f,e',f',rfl,rfl⟩ | ⟨rfl,rfl⟩ | ⟨cs,rfl,rfl⟩ | ⟨s,n,xs,l,rfl,rfl⟩<;>rfl
theorem ZsO (h:ZdD g o o') (sz id off m n:Nat):ZdJ sz id off m n o'=ZdJ sz id off m n o:=by
 rcases ZdE h with ⟨s,xs,e,f,e',f',rfl,rfl⟩ | ⟨rfl,rfl⟩ | ⟨cs,rfl,rfl⟩ | ⟨s,n,xs,l,rfl,rfl⟩<;>rfl
theorem ZsP (h:ZdD g o o') (s id:Nat) (lo hi:Option AV):ZdK s id lo hi o'=ZdK s id lo hi o:=by
 rcases ZdE h with ⟨s,xs,e,f,e',f',rfl,rfl⟩ | ⟨rfl,rfl⟩ | ⟨cs,rfl,rfl⟩ | ⟨s,n,xs,l,rfl,rfl⟩<;>rfl
theorem Zrn (h:ZdD g o o') (s id off n:Nat) (lo hi:Option AV):Zbn s id off n lo hi o'=Zbn s id off n lo hi o:=by
 rcases ZdE h with ⟨s,xs,e,f,e',f',rfl,rfl⟩ | ⟨rfl,rfl⟩ | ⟨cs,rfl,rfl⟩ | ⟨s,n,xs,l,rfl,rfl⟩<;>rfl
theorem Zo0 {id i off:Nat} {l l' : Option (Nat×Nat×Nat)} {x:D} {v:AV} (h:ZfJ id i off l x=some v) (ho:okV v=true):ZfJ id i off l' x=some v∧∃ d,v=.d d:=by
 unfold ZfJ at h ⊢;split at h
 ·unfold Zwu at h;split at h
  ·split at h
   ·cases h;cases ho
   ·cases h
  ·cases h
 ·split at h
  ·rename_i hp;cases h;exact⟨by rw[Kh hp],_,rfl⟩
  ·cases h
 ·cases h
theorem ZmS {id:Nat} (h:ZdD g o o') {a:Bool} {s sz i off:Nat} {v:AV} (ho:okV v=true):ZbH id a s sz i off o'=some v↔ZbH id a s sz i off o=some v:=by
 rcases ZdE h with ⟨s,xs,e,f,e',f',rfl,rfl⟩ | ⟨rfl,rfl⟩ | ⟨cs,rfl,rfl⟩ | ⟨s,n,xs,l,rfl,rfl⟩
 ·exact Iff.rfl
 ·exact Iff.rfl
 ·exact Iff.rfl
 ·simp only[ZbH];split
  ·split
   ·exact Iff.rfl
   ·constructor<;>intro hh<;>obtain⟨x,h1,hh⟩:=Za hh<;>rw[h1,Zg]<;>exact(Zo0 hh ho).1
  ·exact Iff.rfl
end
section
variable {hp hp' : Hp} {g:List Nat}
def ZmT (g:List Nat) (hp hp' : Hp) (v:AV):Prop:=∀ k∈ZC v,ZdD g (lkp hp k) (lkp hp' k)
theorem ZfF {v:AV} (h:ZmT g hp hp' v):ZeT hp' v=ZeT hp v:=by
 cases v<;>simp only[ZeT]
 case d x=>cases x<;>rfl
 case own id=>rw[ZxN (h id (by simp[ZC,ZD,Zn]))]
theorem Zch {v:AV} (h:ZmT g hp hp' v) (sz n:Nat):QF hp' sz n v=QF hp sz n v:=by
 cases v<;>simp only[QF]
 case d x=>cases x<;>rfl
 case own id=>rw[ZuM (h id (by simp[ZC,ZD,Zn]))]
 case ownv id off n=>rw[ZsO (h id (by simp[ZC,ZD,Zn]))]
theorem Zi9 {v:AV} (h:ZmT g hp hp' v) (s:Nat) (lo hi:Option AV):WL hp' s lo hi v=WL hp s lo hi v:=by
 cases v<;>simp only[WL]
 case d x=>cases x<;>rfl
 case own id=>rw[ZsP (h id (by simp[ZC,ZD,Zn]))]
 case ownv id off n=>rw[Zrn (h id (by simp[ZC,ZD,Zn]))]
theorem ZzW {x v:AV} (hs:ZmT g hp hp' x) {a:Bool} {s:Nat} (h:Jp hp a s x=some v) (ho:okV v=true) (hk:kill g v=v):Jp hp' a s x=some v:=by
 cases x<;>simp only[Jp] at h ⊢ <;> first | (cases h;done) | skip
 case ptr id off=>
  rcases ZdE (hs id (by simp[ZC,ZD,Zn])) with ⟨_,_,_,_,_,_,e1,e2⟩ | ⟨e1,e2⟩ | ⟨cs,e1,e2⟩ | ⟨_,_,_,_,e1,e2⟩
  ·rw[e1] at h;cases h
  ·rw[e1] at h;cases h
  ·rw[e1] at h;rw[e2];exact Zwi h ho hk
  ·rw[e1] at h;cases h
 case prow id sz i off=>exact(ZmS (hs id (by simp[ZC,ZD,Zn])) ho).2 h
 case pim cs=>exact h
theorem ZzX {id:Nat} {a:Bool} {s sz i off:Nat} {o:Option Zm} {v:AV} (h:ZbH id a s sz i off o=some v) (ho:okV v=true):∃ d,v=.d d:=by
 unfold ZbH at h;split at h
 ·split at h
  ·obtain⟨x,_,h⟩:=Za h;unfold ZmY at h;split at h
   ·unfold ZeV at h;split at h
    ·split at h
     ·cases h;exact⟨_,rfl⟩
     ·cases h
    ·unfold asD at h;obtain⟨y,_,h⟩:=Za h;cases h;exact⟨_,rfl⟩
   ·cases h
  ·cases h
 ·split at h
  ·split at h
   ·cases h
   ·obtain⟨x,_,h⟩:=Za h;exact(Zo0 (l':=none) h ho).2
  ·cases h
 ·cases h
theorem ZBi {a:Bool} {s off:Nat} {cs:List D} {v:AV} (h:ZeV a s off cs=some v):∃ d,v=.d d:=by
 unfold ZeV at h;split at h
 ·split at h
  ·cases h;exact⟨_,rfl⟩
  ·cases h
 ·unfold asD at h;obtain⟨y,_,h⟩:=Za h;cases h;exact⟨_,rfl⟩
theorem ZzY {x v:AV} (hs:ZmT g hp hp' x) {a:Bool} {s:Nat} (h:Jp hp' a s x=some v) (ho:okV v=true):Jp hp a s x=some v∧kill g v=v:=by
 cases x<;>simp only[Jp] at h ⊢ <;> first | (cases h;done) | skip
 case ptr id off=>
  rcases ZdE (hs id (by simp[ZC,ZD,Zn])) with ⟨_,_,_,_,_,_,e1,e2⟩ | ⟨e1,e2⟩ | ⟨cs,e1,e2⟩ | ⟨_,_,_,_,e1,e2⟩
  ·rw[e2] at h;cases h
  ·rw[e2] at h;cases h
  ·rw[e2] at h;rw[e1];exact Zwj h ho
  ·rw[e2] at h;cases h
 case prow id sz i off=>
  have h:=(ZmS (hs id (by simp[ZC,ZD,Zn])) ho).1 h;obtain⟨d,rfl⟩:=ZzX h ho;exact⟨h,rfl⟩
 case pim cs=>
  obtain⟨d,rfl⟩:=ZBi h;exact⟨h,rfl⟩
theorem Zo1 {x:AV} {d:D} {e:Bool} (h:Zcw hp x=some (d,e,[])) (hp' : Hp):Zcw hp' x=some (d,e,[]):=by
 cases x<;>simp only[Zcw] at h ⊢ <;> first | exact h | skip
 case own id=>obtain⟨q,_,h⟩:=Za h;simp at h
theorem Zo2:∀ {xs:List AV} {d:List D} {e:Bool},WP hp xs=some (d,e,[])→∀ hp' : Hp,WP hp' xs=some (d,e,[])
 | [],d,e,h,hp'=>h
 | x :: xs,d,e,h,hp'=>by
  simp only[WP] at h ⊢;obtain⟨⟨d1,e1,l1⟩,h1,h⟩:=Za h;obtain⟨⟨d2,e2,l2⟩,h2,h⟩:=Za h;have hl:l1=[]∧l2=[]:=by
   simp only at h;split at h
   ·simp only[Option.some.injEq,Prod.mk.injEq,LR] at h;exact h.2.2
   ·cases h
  obtain⟨rfl,rfl⟩:=hl;rw[Zo1 h1 hp',Zg,Zo2 h2 hp',Zg];exact h
theorem ZxO {x:AV} {d:D} {e:Bool} (h:give hp x=some (d,e,[])) (hp' : Hp):give hp' x=some (d,e,[]):=by
 cases x<;>simp only[give] at h ⊢ <;> first | exact Zo1 h hp' | skip
 case agg cs=>
  obtain⟨⟨d1,e1,l1⟩,h1,h⟩:=Za h;simp only[Option.some.injEq,Prod.mk.injEq] at h;obtain⟨rfl,rfl,rfl⟩:=h;rw[Zo2 h1 hp',Zg]
theorem Zk8:∀ {xs:List AV} {d:List D} {e:Bool},UI hp xs=some (d,e,[])→∀ hp' : Hp,UI hp' xs=some (d,e,[])
 | [],d,e,h,hp'=>h
 | x :: xs,d,e,h,hp'=>by
  simp only[UI] at h ⊢;obtain⟨⟨d1,e1,l1⟩,h1,h⟩:=Za h;obtain⟨⟨d2,e2,l2⟩,h2,h⟩:=Za h;have hl:l1=[]∧l2=[]:=by
   simp only at h;split at h
   ·simp only[Option.some.injEq,Prod.mk.injEq,LR] at h;exact h.2.2
   ·cases h
  obtain⟨rfl,rfl⟩:=hl;rw[ZxO h1 hp',Zg,Zk8 h2 hp',Zg];exact h
theorem Zk9 {base s:Nat} {vs:List AV} {ce:Zd} (h:buildSl hp base s vs=some ce) (hf:ce.eff.frz=[]) (hp' : Hp) :
  buildSl hp' base s vs=some ce∧(ce.eff.val=.nil∨ce.eff.val=.own base)∧(∀ k o,(k,o)∈ce.eff.adds→∃ sz xs e f,o=.row sz xs e f):=by
 cases vs with
 | nil=>simp only[buildSl,QR] at h ⊢;cases h;exact⟨rfl,.inl rfl,fun k o h=>by simp at h⟩
 | cons v vs=>
  simp only[buildSl] at h ⊢;obtain⟨⟨ds,e,l⟩,h1,h⟩:=Za h;unfold ZxU at h;split at h
  ·rename_i hc;cases h;simp only at hf;subst hf;rw[Zk8 h1 hp',Zg];refine⟨?_,.inr rfl,fun k o ho=>?_⟩
   ·unfold ZxU;rw[Kh hc]
   ·simp at ho;obtain⟨rfl,rfl⟩:=ho;exact⟨_,_,_,_,rfl⟩
  ·cases h
end
theorem ZmU {C:Orc} {M:Zp} {sl:Sl} {hp hp' : Hp} {base:Nat} {c:COp} (hc:Um c=true):vop C M sl hp base c=vop C M sl hp' base c:=by
 cases c<;>first | rfl | (simp[Um] at hc)
section
variable {C:Orc} {M:Zp} {sl sl' : Sl} {hp hp' : Hp} {base:Nat} {g:List Nat}
theorem Qk {v:AV} {ce:Zd} (h:QR v=some ce):ce.eff.adds=[]:=by cases h;rfl
theorem QY {v:Option AV} {ce:Zd} (h:Wa v=some ce):ce.eff.adds=[]:=by obtain⟨v,_,h⟩:=Za h;exact Qk h
theorem Zb0 {v:Option AV} {ce:Zd} (h:Wa v=some ce):v=some ce.eff.val:=by obtain⟨v,rfl,h⟩:=Za h;cases h;rfl
theorem ZyS {v:Option AV} {ce:Zd} {w:Option AV} (h:Wa v=some ce) (hw:w=some ce.eff.val):Wa w=some ce:=by
 obtain⟨v,rfl,h⟩:=Za h;cases h;rw[hw];rfl
theorem ZxP {c:COp} (hc:Um c=true) (hv:Zx8 c=true) {ce:Zd} (h:vop C M sl hp base c=some ce):ce.eff.adds=[]:=by
 cases c<;>simp only[Um,Zx8,Ka] at hc hv<;>simp only[vop] at h
 case stuck=>cases h
 case move x=>exact Qk h
 case pick c a b=>
  unfold ZhU at h;split at h
  ·split at h<;>exact Qk h
  ·cases h
 case build zs ps=>obtain⟨cs,_,h⟩:=Za h;exact Qk h
 case nilCheck x=>unfold ZaR at h;split at h<;>first | exact Qk h | cases h
 case bin op eq x y=>
  unfold Zm1 at h;split at h
  ·split at h
   ·exact QY h
   ·cases h
  ·exact QY h
 case un op x=>exact QY h
 case eqA neg n x y=>
  unfold ZsT at h;split at h
  ·obtain⟨r,_,h⟩:=Za h;exact Qk h
  ·cases h
 case convI k x=>unfold Go.Abs.convI at h;split at h<;>first | exact Qk h | cases h
 case convS x=>unfold Go.Abs.convS at h;split at h<;>first | exact Qk h | cases h
 case sliceS x lo hi=>exact QY h
 case shift off x=>unfold Wb at h;split at h<;>first | exact Qk h | cases h
 case part g s off x=>exact QY h
 case iaA len s x i=>
  obtain⟨n,_,h⟩:=Za h;unfold Zo8 at h;split at h
  ·unfold Wb at h;split at h<;>first | exact Qk h | cases h
  ·cases h
 case ixS x i=>
  obtain⟨n,_,h⟩:=Za h;unfold Zwx at h;split at h
  ·unfold ZtT at h;split at h
   ·obtain⟨b,_,h⟩:=Za h;exact Qk h
   ·cases h
  ·cases h
 case ixA g s len x i=>
  obtain⟨n,_,h⟩:=Za h;unfold ZxV at h;split at h
  ·exact QY h
  ·cases h
 case nth i x=>unfold ZuU at h;split at h<;>first | exact QY h | cases h
 case lenS x=>obtain⟨n,_,h⟩:=Za h;exact Qk h
 case min x y=>unfold Zm3 at h;split at h<;>first | (split at h<;>first | exact Qk h | cases h) | cases h
 case max x y=>unfold Zm4 at h;split at h<;>first | (split at h<;>first | exact Qk h | cases h) | cases h
theorem Zo3 {c:AV} (h:Ze1 c=true):ZX g c=c:=by cases c<;>first | rfl | cases h
theorem ZgS:∀ {cs:List AV},Wn cs=true→∀ c∈cs,Ze1 c=true
 | [],_,c,hc=>by simp at hc
 | x :: l,h,c,hc=>by
  simp only[Wn,Kf] at h;rcases Ke.1 hc with rfl | hc
  ·exact h.1
  ·exact ZgS h.2 c hc
theorem Zn7:∀ (slc:List (Option Nat)) (cs:List AV) (b:Nat),(∀ c∈(mat slc cs b).1,c∈cs∨∃ k o,c=.own k∧(k,o)∈(mat slc cs b).2)∧∀ k o,(k,o)∈(mat slc cs b).2→∃ sz,o=.row sz [] true false
 | [],cs,b=>by simp only[mat];exact⟨fun c hc=>.inl hc,fun k o h=>by simp at h⟩
 | t :: ts,[],b=>by cases t<;>(simp only[mat];exact⟨fun c hc=>.inl hc,fun k o h=>by simp at h⟩)
 | t :: ts,v :: vs,b=>by
  by_cases hv:(∃ sz,t=some sz)∧v=.nil
  ·obtain⟨⟨sz,rfl⟩,rfl⟩:=hv;obtain⟨h1,h2⟩:=Zn7 ts vs (b+1);simp only[mat];refine⟨fun c hc=>?_,fun k o h=>?_⟩
   ·rcases Ke.1 hc with rfl | hc
    ·exact .inr ⟨b,_,rfl,K3 ..⟩
    ·rcases h1 c hc with h | ⟨k,o,e,h⟩
     ·exact .inl (KB _ h)
     ·exact .inr ⟨k,o,e,KB _ h⟩
   ·rcases Ke.1 h with h | h
    ·cases h;exact⟨_,rfl⟩
    ·exact h2 k o h
  ·obtain⟨h1,h2⟩:=Zn7 ts vs b;have e:mat (t :: ts) (v :: vs) b=(v :: (mat ts vs b).1,(mat ts vs b).2):=by
    cases t with
    | none=>simp[mat]
    | some sz=>cases v<;>first | (exact absurd ⟨⟨sz,rfl⟩,rfl⟩ hv) | simp[mat]
   rw[e];refine⟨fun c hc=>?_,h2⟩;rcases Ke.1 hc with rfl | hc
   ·exact .inl (K3 ..)
   ·rcases h1 c hc with h | h
    ·exact .inl (KB _ h)
    ·exact .inr h
theorem ZtF {base:Nat}:∀ {cs:List AV},Wn cs=true→cs.map (ZlF base)=cs
 | [],_=>rfl
 | c :: cs,h=>by
  simp only[Wn,Kf] at h;rw[Kk,ZtF h.2];congr 1
  cases c<;>first | rfl | (simp[Ze1] at h)
theorem ZtG:∀ {cs:List AV},Wn cs=true→X3 cs=true
 | [],_=>rfl
 | c :: cs,h=>by
  simp only[Wn,Kf] at h;have:=ZtG h.2;cases c<;>first | exact this | (simp[Ze1] at h)
theorem Zo4 {slc:List (Option Nat)} {cs:List AV} {ce:Zd} (hb:∀ k,base≤k→k<base+64→k∉g) (hc:Wn cs=true) (h:ZgW slc base cs=some ce) (ad:Q0 base (base+64) ce.eff.adds=true) :
  (∀ id∈ZC ce.eff.val,id∉g)∧∀ k o,(k,o)∈ce.eff.adds→X4 g o=o:=by
 have hr:=UN ad;unfold ZgW at h;rw[ZtF hc] at h;unfold Zoc at h;rw[Kd (by rw[ZtG hc];decide)] at h;split at h
 ·cases h;simp only at hr ⊢;obtain⟨h1,h2⟩:=Zn7 slc cs (base+1);refine⟨fun id aa=>?_,fun k o hm=>?_⟩
  ·simp[ZC,ZD,Zn] at aa;subst aa;exact hb _ (Kt _) (by omega)
  ·rcases Ke.1 hm with hm | hm
   ·cases hm;simp only[X4];congr 1
    rw[KS (g:=id),Lu];intro c ab;rcases h1 c ab with h | ⟨k,o,rfl,h⟩
    ·exact Zo3 (ZgS hc c h)
    ·have:=hr k o (KB _ h);have hk:=hb k this.1 this.2;simp[ZX,Qg,hk]
   ·obtain⟨sz,rfl⟩:=h2 k o hm;rfl
 ·cases h;simp only at hr ⊢;refine⟨fun id aa=>?_,fun k o hm=>?_⟩
  ·simp[ZC,ZD,Zn] at aa;subst aa;exact hb _ (Kt _) (by omega)
  ·simp at hm;obtain⟨rfl,rfl⟩:=hm;simp only[X4];congr 1
   rw[KS (g:=id),Lu];exact fun c ab=>Zo3 (ZgS hc c ab)
theorem ZzZ {c:COp} (hc:ZrS c=true) (he:∀ x∈ZM c,evO sl' x=evO sl x) (hs:∀ x∈ZM c,ZmT g hp hp' (evO sl x)) {ce:Zd}
  (hb:∀ k,base≤k→k<base+64→k∉g) (h:vop C M sl hp base c=some ce) (ab:Q0 base (base+64) ce.eff.adds=true) (ad:ce.eff.frz=[]) (ho:okV ce.eff.val=true) (hk:kill g ce.eff.val=ce.eff.val):vop C M sl' hp' base c=some ce∧∀ k o,(k,o)∈ce.eff.adds→X4 g o=o:=by
 rw[Xk C M hp' base he];have aa:ce.eff.adds=[]→∀ k o,(k,o)∈ce.eff.adds→X4 g o=o:=fun e k o hm=>by rw[e] at hm;simp at hm
 simp only[ZrS,Lj,Kf] at hc;rcases hc with ((hc | hc) | ⟨hc1,hc2⟩) | hc
 ·cases c<;>simp only[ZaW,Ka] at hc<;>simp only[vop] at h ⊢ <;> simp only[ZM] at hs
  case load a s x=>exact⟨ZyS h (ZzW (hs x (by simp)) (Zb0 h) ho hk),aa (QY h)⟩
  case slice s x lo hi=>
   rw[Zi9 (hs x (by simp))];exact⟨h,aa (QY h)⟩
  case slice0 x hi mx=>
   unfold slice0 at h ⊢;rw[ZfF (hs x (by simp))];exact⟨h,aa (QY h)⟩
  case iaS s x i=>
   obtain⟨n,h1,h⟩:=Za h;rw[h1,Zg];unfold Zjj at h ⊢;rw[Zch (hs x (by simp))];refine⟨h,aa ?_⟩;split at h
   ·exact QY h
   ·cases h
  case len x=>
   rw[ZfF (hs x (by simp))];refine⟨h,aa ?_⟩;obtain⟨n,_,h⟩:=Za h;exact Qk h
 ·cases c<;>simp only[ZtW,Ka] at hc
  simp only[vop] at h ⊢;obtain⟨h1,h2,h3⟩:=Zk9 h ad hp';refine⟨h1,fun k o hm=>?_⟩;obtain⟨sz,xs,e,f,rfl⟩:=h3 k o hm;rfl
 ·rw[← ZmU (hp:=hp) hc1];exact⟨h,aa (ZxP hc1 hc2 h)⟩
 ·cases c<;>simp only[Zp1,Ka] at hc
  simp only[vop] at h ⊢;exact⟨h,(Zo4 hb hc h ab).2⟩
theorem ZxQ {c:COp} (hc:Zm9 c=true) (he:∀ x∈ZM c,evO sl' x=evO sl x) (hs:∀ x∈ZM c,ZmT g hp hp' (evO sl x)) {ce:Zd}
  (hn:∀ x∈ZM c,∀ id∈ZC (evO sl x),id∉g) (hb:∀ k,base≤k→k<base+64→k∉g)
  (h:vop C M sl' hp' base c=some ce) (ad:Q0 base (base+64) ce.eff.adds=true) (ae:ce.eff.frz=[]) (ho:okV ce.eff.val=true):vop C M sl hp base c=some ce∧kill g ce.eff.val=ce.eff.val∧∀ k o,(k,o)∈ce.eff.adds→X4 g o=o:=by
 rw[Xk C M hp' base he] at h;have aa:ce.eff.adds=[]→∀ k o,(k,o)∈ce.eff.adds→X4 g o=o:=fun e k o hm=>by rw[e] at hm;simp at hm
 have names:(∀ id∈ZC ce.eff.val,id∉g)→kill g ce.eff.val=ce.eff.val:=ZyR ho;cases c<;>simp only[Zm9,Ka] at hc<;>simp only[vop] at h ⊢ <;> simp only[ZM] at hs hn
 case alloc slc cs=>
  obtain⟨h1,h2⟩:=Zo4 hb hc h ad;exact⟨h,names h1,h2⟩
 case buildSl s xs=>
  obtain⟨h1,h2,h3⟩:=Zk9 h ae hp;refine⟨h1,names fun id ab=>?_,fun k o hm=>?_⟩
  ·rcases h2 with h2 | h2
   ·rw[h2] at ab;simp[ZC,ZD,Zn] at ab
   ·rw[h2] at ab;simp[ZC,ZD,Zn] at ab;subst ab;exact hb _ (Kt _) (by omega)
  ·obtain⟨sz,xs,e,f,rfl⟩:=h3 k o hm;rfl
 case load a s x=>
  obtain⟨h1,h2⟩:=ZzY (hs x (by simp)) (Zb0 h) ho;exact⟨ZyS h h1,h2,aa (QY h)⟩
 case nilCheck x=>
  have hx:=hn x (by simp);refine⟨h,names ?_,aa ?_⟩
  ·unfold ZaR at h;split at h<;>rename_i hv<;>first | (cases h;done) | (cases h;show ∀ id∈ZC _,_;rw[← hv];exact hx)
  ·unfold ZaR at h;split at h<;>first | exact Qk h | cases h
 case bin op eq x y=>
  have hd:∃ d,ce.eff.val=.d d:=by
   have o2:∀ {a b:AV},Wa (vbin op a b)=some ce→∃ d,ce.eff.val=.d d:=fun {a b} h=>by
    have h1:=Zb0 h;unfold vbin at h1;split at h1
    ·unfold ZaL at h1;split at h1
     ·obtain⟨y,_,h1⟩:=Za h1;exact⟨_,(Option.some.inj h1).symm⟩
     ·obtain⟨y,_,h1⟩:=Za h1;exact⟨_,(Option.some.inj h1).symm⟩
     ·split at h1
      ·obtain⟨y,_,h1⟩:=Za h1;have:=Option.some.inj h1;exact⟨_,this.symm⟩
      ·cases h1
    ·obtain⟨y,_,h1⟩:=Za h1;have:=Option.some.inj h1;exact⟨_,this.symm⟩
    ·cases h1
   unfold Zm1 at h;split at h
   ·split at h
    ·have h1:=Zb0 h;unfold Ztn at h1;split at h1
     ·exact⟨_,(Option.some.inj h1).symm⟩
     ·exact⟨_,(Option.some.inj h1).symm⟩
     ·cases h1
    ·cases h
   ·exact o2 h
  obtain⟨d,hd⟩:=hd;refine⟨h,by rw[hd];rfl,aa ?_⟩;unfold Zm1 at h;split at h
  ·split at h
   ·exact QY h
   ·cases h
  ·exact QY h
 case un op x=>
  have hd:∃ d,ce.eff.val=.d d:=by
   have h1:=Zb0 h;unfold vun at h1;split at h1
   ·unfold neg1 at h1;split at h1
    ·exact⟨_,(Option.some.inj h1).symm⟩
    ·cases h1
   ·unfold not1 at h1;split at h1
    ·exact⟨_,(Option.some.inj h1).symm⟩
    ·cases h1
   ·cases h1
  obtain⟨d,hd⟩:=hd;exact⟨h,by rw[hd];rfl,aa (QY h)⟩
 case convI k x=>
  unfold Go.Abs.convI at h ⊢;split at h
  ·exact⟨h,by cases h;rfl,aa (Qk h)⟩
  ·cases h
 case shift off x=>
  have hx:=hn x (by simp);refine⟨h,names ?_,aa ?_⟩
  ·unfold Wb at h;split at h<;>rename_i hv<;>first | (cases h;done) | skip
   ·cases h;rw[hv] at hx;simpa [ZC,ZD,Zn] using hx
   ·cases h;rw[hv] at hx;simpa [ZC,ZD,Zn] using hx
   ·cases h;simp[ZC,ZD,Zn]
  ·unfold Wb at h;split at h<;>first | exact Qk h | cases h
 case slice s x lo hi=>
  have hx:=hn x (by simp);rw[Zi9 (hs x (by simp))] at h;refine⟨h,names ?_,aa (QY h)⟩;have h1:=Zb0 h;cases hv:evO sl x<;>rw[hv] at h1 hx<;>simp only[WL] at h1<;>first | (cases h1;done) | skip
  case d y=>
   cases y<;>simp only[WL] at h1<;>first | (cases h1;done) | skip
   split at h1
   ·obtain⟨b,_,h1⟩:=Za h1;rw[← Option.some.inj h1];simp[ZC,ZD,Zn]
   ·cases h1
  case nil=>obtain⟨b,_,h1⟩:=Za h1;rw[← Option.some.inj h1];simp[ZC,ZD,Zn]
  case own id=>
   unfold ZdK at h1;split at h1
   ·split at h1
    ·unfold Zww at h1;split at h1
     ·rw[← Option.some.inj h1];exact hx
     ·obtain⟨b,_,h1⟩:=Za h1;rw[← Option.some.inj h1];simpa [ZC,ZD,Zn] using hx
    ·cases h1
   ·cases h1
  case ownv id off n=>
   unfold Zbn at h1;split at h1
   ·split at h1
    ·obtain⟨b,_,h1⟩:=Za h1;rw[← Option.some.inj h1];simpa [ZC,ZD,Zn] using hx
    ·cases h1
   ·cases h1
 case sliceS x lo hi=>
  have hd:∃ d,ce.eff.val=.d d:=by
   have h1:=Zb0 h;unfold sliceS at h1;split at h1
   ·obtain⟨b,_,h1⟩:=Za h1;exact⟨_,(Option.some.inj h1).symm⟩
   ·cases h1
  obtain⟨d,hd⟩:=hd;exact⟨h,by rw[hd];rfl,aa (QY h)⟩
 case lenS x=>
  obtain⟨n,h1,h⟩:=Za h;refine⟨by rw[h1,Zg];exact h,by cases h;rfl,aa (Qk h)⟩
 case iaS s x i=>
  have hx:=hn x (by simp);obtain⟨n,h1,h⟩:=Za h;rw[h1,Zg];unfold Zjj at h ⊢;rw[Zch (hs x (by simp))] at h;refine⟨h,names ?_,aa ?_⟩
  ·split at h
   ·have h1:=Zb0 h;cases hv:evO sl x<;>rw[hv] at h1 hx<;>simp only[QF] at h1<;>first | (cases h1;done) | skip
    case d y=>
     cases y<;>simp only[QF] at h1<;>first | (cases h1;done) | skip
     obtain⟨b,_,h1⟩:=Za h1;unfold Zy0 at h1;split at h1
     ·rw[← Option.some.inj h1];simp[ZC,ZD,Zn]
     ·cases h1
    case own id=>
     unfold Zej at h1;split at h1
     ·split at h1
      ·rw[← Option.some.inj h1];simpa [ZC,ZD,Zn] using hx
      ·cases h1
     ·split at h1
      ·rw[← Option.some.inj h1];simpa [ZC,ZD,Zn] using hx
      ·cases h1
     ·cases h1
    case ownv id off n=>
     unfold ZdJ at h1;split at h1
     ·split at h1
      ·rw[← Option.some.inj h1];simpa [ZC,ZD,Zn] using hx
      ·cases h1
     ·cases h1
   ·cases h
  ·split at h
   ·exact QY h
   ·cases h
 case len x=>
  rw[ZfF (hs x (by simp))] at h;obtain⟨n,h1,h2⟩:=Za h;exact⟨h,by cases h2;rfl,aa (Qk h2)⟩
end
end Go.Abs
