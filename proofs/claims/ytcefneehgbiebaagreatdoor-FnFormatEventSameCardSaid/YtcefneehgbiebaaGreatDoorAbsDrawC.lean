/- Own text. -/
import Derived.Test.YtcefneehgbiebaaGreatDoorAbsDraw3
import Derived.Test.YtcefneehgbiebaaGreatDoorAbsSound5
set_option linter.unusedVariables false
set_option linter.unusedSimpArgs false
namespace Go.Abs
open Go
theorem Zxn {v:AV} (h:okC v=true):okV v=true:=by
 cases v<;>first | exact h | cases h
theorem ZkB {g:List Nat} {v:AV} (h:okC (Qa g v)=true):Qa g v=v:=by
 cases v<;>simp only[Qa] at h ⊢ <;> first | rfl | (split at h<;>rename_i h' <;> first | (cases h;done) | rw[Kd h'])
theorem Ziy {g:List Nat}:∀ {cs:List AV},Zte (cs.map (Qa g))=true→cs.map (Qa g)=cs
 | [],_=>rfl
 | c :: cs,h=>by
  simp only[Kj,Zte,Ke] at h ⊢;rw[ZkB h.1,Ziy h.2]
theorem Zek {g:List Nat} {v:AV} (h:okV (ZT g v)=true):ZT g v=v:=by
 cases v with
 | agg cs=>simp only[ZT,okV] at h ⊢;rw[Ziy h]
 | clo f cs=>simp only[ZT,okV,okC] at h;cases h
 | tup vs=>rfl
 | _=>
  simp only[ZT] at h ⊢;refine ZkB ?_;revert h;simp only[Qa]
  first | exact id | (split<;>first | exact id | (intro h;cases h))
theorem Zcn {g:List Nat} {v:AV} (h:okV (kill g v)=true):kill g v=v:=by
 cases v with
 | tup vs=>
  cases vs with
  | nil=>rfl
  | cons x r=>simp only[kill,Kj,okV,okC] at h;cases h
 | _=>simp only[kill] at h ⊢;exact Zek h
theorem Zur {g:List Nat} {v:AV} (hn:∀ id∈Zm v,id∉g):Qa g v=v:=by
 cases v<;>simp only[Qa]<;>first | rfl | (rw[Kd];simpa [Zm] using hn)
theorem Zxo {g:List Nat} {v:AV} (h:okV v=true) (hn:∀ id∈ZB v,id∉g):kill g v=v:=by
 cases v with
 | tup vs=>
  cases vs with
  | nil=>rfl
  | cons x r=>simp only[okV,okC] at h;cases h
 | clo f cs=>simp only[okV,okC] at h;cases h
 | agg cs=>
  simp only[kill,ZT];congr 1
  rw[KO (g:=id),Lq];intro c hc;exact Zur fun id aa=>hn id (by simp only[ZB,ZC,Kv];exact⟨c,hc,aa⟩)
 | _=>simp only[kill,ZT];exact Zur hn
theorem ZzB {g:List Nat} {v:AV} (h:kill g v=v):∀ id∈ZB v,id∉g:=fun id aa=>(Zku g v id (by rw[h];exact aa)).2
theorem Zyh {g:List Nat} {c:AV} (h:okC c=true) (h1:Qa g c=c):ZT g c=c:=by
 cases c<;>simp only[ZT]<;>first | exact h1 | cases h
def Zco (g:List Nat):Option Zl→Option Zl→Prop
 | none,none=>True
 | some (.row s xs _ _),some (.row s' xs' _ _)=>s'=s∧xs'=xs
 | some (.box cs),some (.box cs')=>cs'=cs.map (ZT g)
 | some (.deep s n xs l),some (.deep s' n' xs' l')=>s'=s∧n'=n∧xs'=xs∧l'=Zgl g l
 | _,_=>False
theorem Zus {g:List Nat} {b:Bool} (o:Option Zl):Zco g o ((o.map (XV g)).map fun o=>if b then VD o else o):=by
 cases o with
 | none=>trivial
 | some o=>cases o<;>cases b<;>exact(by first | exact⟨rfl,rfl⟩ | exact rfl | exact⟨rfl,rfl,rfl,rfl⟩)
theorem ZrD {g:List Nat}:∀ {l:List AV} {ds:List D},ZeX l=some ds→l.map (ZT g)=l
 | [],ds,_=>rfl
 | v :: l,ds,h=>by
  simp only[ZeX] at h;obtain⟨x,h1,h⟩:=Za h;obtain⟨aa,h2,h⟩:=Za h;have:ZT g v=v:=by cases v<;>first | rfl | cases h1
  rw[Kj,this,ZrD h2]
theorem ZnX {g:List Nat}:∀ {l:List AV} {ds:List D},ZeX (l.map (ZT g))=some ds→l.map (ZT g)=l
 | [],ds,_=>rfl
 | v :: l,ds,h=>by
  simp only[Kj,ZeX] at h;obtain⟨x,h1,h⟩:=Za h;obtain⟨aa,h2,h⟩:=Za h;have hv:ZT g v=v:=by
   refine Zek ?_;cases hk:ZT g v<;>rw[hk] at h1<;>first | rfl | cases h1
  rw[Kj,hv,ZnX h2]
theorem Zgs (l:List AV):(∃ ds,ZeX l=some ds∧Jw l=.d (.agg ds))∨(ZeX l=none∧(Jw l=.junk∨Jw l=.agg l)):=by
 unfold Jw;cases h:ZeX l with
 | some ds=>exact .inl ⟨ds,rfl,rfl⟩
 | none=>
  refine .inr ⟨rfl,?_⟩;unfold UV;split
  ·rename_i h;cases h
  ·split
   ·exact .inl rfl
   ·exact .inr rfl
theorem Zjm:∀ {l:List AV},Zte l=true→∀ c∈l,okC c=true
 | [],_,c,hc=>by simp at hc
 | x :: l,h,c,hc=>by
  simp only[Zte,Ke] at h;rcases Kf.1 hc with rfl | hc
  ·exact h.1
  ·exact Zjm h.2 c hc
theorem Zyi {g:List Nat} {l:List AV} (h:okV (Jw l)=true) (hk:kill g (Jw l)=Jw l):l.map (ZT g)=l:=by
 rcases Zgs l with ⟨ds,h1,h2⟩ | ⟨h1,h2 | h2⟩
 ·exact ZrD h1
 ·rw[h2] at h;cases h
 ·rw[h2] at h hk;simp only[kill,ZT,AV.agg.injEq] at hk;simp only[okV] at h;have hm:=Zjm h;have aa : ∀ c∈l,Qa g c=c:=by
   intro c hc;have:=Ziy (g:=g) (cs:=l) (by rw[hk];exact h);exact ZkB (by
    have h3:Qa g c∈l.map (Qa g):=L1 hc;rw[hk] at h3;exact hm _ h3)
  rw[KO (g:=id),Lq];intro c hc;exact Zyh (hm c hc) (aa c hc)
theorem Zyj {g:List Nat} {l:List AV} (h:okV (Jw (l.map (ZT g)))=true):l.map (ZT g)=l:=by
 rcases Zgs (l.map (ZT g)) with ⟨ds,h1,h2⟩ | ⟨h1,h2 | h2⟩
 ·exact ZnX h1
 ·rw[h2] at h;cases h
 ·rw[h2] at h;simp only[okV] at h;have hm:=Zjm h;rw[KO (g:=id),Lq];intro c hc;exact Zek (Zxn (hm _ (L1 hc)))
theorem Zv6 {g:List Nat} {v:AV} (h:okV v=true) (hk:kill g v=v):ZT g v=v:=by
 cases v with
 | tup vs=>rfl
 | _=>simp only[kill] at hk;exact hk
theorem Zv7 {g:List Nat} {v:AV} (h:okV v=true) (hk:ZT g v=v):kill g v=v:=by
 cases v with
 | tup vs=>
  cases vs with
  | nil=>rfl
  | cons x r=>simp only[okV,okC] at h;cases h
 | _=>simp only[kill];exact hk
theorem Zh8 {α β:Type} (f:α→β) (l:List α) (a b:Nat):((l.map f).drop a).take b=((l.drop a).take b).map f:=by
 rw[← List.map_drop,← List.map_take]
theorem ZlP (g:List Nat) (c:AV):Zjs (ZT g c)=ZT g (Zjs c):=by
 have aa:∀ v:AV,(∀ a b,v≠.bbuf a b)→Zjs v=v:=fun v h'=>by cases v<;>first | rfl | exact absurd rfl (h' _ _)
 by_cases h' : ∃ a b,c=.bbuf a b
 ·obtain⟨a,b,rfl⟩:=h';rfl
 ·have h2:∀ a b,c≠.bbuf a b:=fun a b e=>h' ⟨a,b,e⟩;rw[aa c h2,aa];exact fun a b e=>h2 a b ((Jb g c a b).1 e)
theorem Zut {g:List Nat} {cs:List AV} {a:Bool} {s off:Nat} {v:AV} (h:Za0 a s off (some (.box cs))=some v) (ho:okV v=true) (hk:kill g v=v):Za0 a s off (some (.box (cs.map (ZT g))))=some v:=by
 unfold Za0 at h ⊢;cases a with
 | true=>
  simp only[Km] at h ⊢;split at h
  ·rename_i hl;cases h;rw[Ki (by simpa using hl),Zh8,Zyi ho hk]
  ·cases h
 | false=>
  simp only[Ka,Ko] at h ⊢;obtain⟨c,hc,rfl⟩:=Option.map_eq_some_iff.1 h;rw[KS,hc];simp only[KJ];rw[ZlP,Zv6 ho hk]
theorem Zuu {g:List Nat} {cs:List AV} {a:Bool} {s off:Nat} {v:AV} (h:Za0 a s off (some (.box (cs.map (ZT g))))=some v) (ho:okV v=true):Za0 a s off (some (.box cs))=some v∧kill g v=v:=by
 unfold Za0 at h ⊢;cases a with
 | true=>
  simp only[Km] at h ⊢;split at h
  ·rename_i hl;cases h;rw[Zh8] at ho ⊢;have he:=Zyj ho;rw[he] at ho ⊢;refine⟨by rw[Ki (by simpa using hl)],?_⟩;rcases Zgs ((cs.drop off).take s) with ⟨ds,h1,h2⟩ | ⟨h1,h2 | h2⟩
   ·rw[h2];rfl
   ·rw[h2] at ho;cases ho
   ·rw[h2] at ho ⊢;simp only[okV] at ho;have hm:=Zjm ho;simp only[kill,ZT,AV.agg.injEq];rw[KO (g:=id),Lq];intro c hc;have h3:ZT g c=c:=by
     refine Zek ?_;have h4:ZT g c∈((cs.drop off).take s).map (ZT g):=L1 hc;rw[he] at h4;exact Zxn (hm _ h4)
    have:=hm c hc;cases c<;>first | exact h3 | cases this
  ·cases h
 | false=>
  simp only[Ka,Ko] at h ⊢;rw[KS] at h;cases hc:cs[off]? with
  | none=>rw[hc] at h;cases h
  | some c=>
   rw[hc] at h;simp only[KJ,Option.some.injEq] at h;rw[ZlP] at h;have h3:ZT g (Zjs c)=Zjs c:=Zek (by rw[h];exact ho);rw[h3] at h;subst h;exact⟨rfl,Zv7 ho h3⟩
theorem Zv8 {g:List Nat} {o o' : Option Zl} (h:Zco g o o'):Jx o'=Jx o:=by
 cases o with
 | none=>cases o' with
  | none=>rfl
  | some o'=>cases h
 | some o=>cases o' with
  | none=>cases o<;>cases h
  | some o'=>cases o<;>cases o' <;> simp only[Zco] at h<;>first | (cases h;done) | rfl | (obtain⟨rfl,rfl⟩:=h;rfl) | (obtain⟨_,_,rfl,_⟩:=h;rfl)
theorem Zcp {g:List Nat} {o o' : Option Zl} (h:Zco g o o'):(∃ s xs e f e' f',o=some (.row s xs e f)∧o'=some (.row s xs e' f'))∨(o=none∧o'=none)∨(∃ cs,o=some (.box cs)∧o'=some (.box (cs.map (ZT g))))∨(∃ s n xs l,o=some (.deep s n xs l)∧o'=some (.deep s n xs (Zgl g l))):=by
 cases o with
 | none=>cases o' with
  | none=>exact .inr (.inl ⟨rfl,rfl⟩)
  | some o'=>cases h
 | some o=>cases o' with
  | none=>cases o<;>cases h
  | some o' =>
   cases o with
   | box cs=>cases o' with
    | box cs'=>simp only[Zco] at h;subst h;exact .inr (.inr (.inl ⟨cs,rfl,rfl⟩))
    | row _ _ _ _=>cases h
    | deep _ _ _ _=>cases h
   | row s xs e f=>cases o' with
    | box cs'=>cases h
    | row s' xs' e' f'=>simp only[Zco] at h;obtain⟨rfl,rfl⟩:=h;exact .inl ⟨_,_,_,_,_,_,rfl,rfl⟩
    | deep _ _ _ _=>cases h
   | deep s n xs l=>cases o' with
    | box cs'=>cases h
    | row _ _ _ _=>cases h
    | deep s' n' xs' l'=>simp only[Zco] at h;obtain⟨rfl,rfl,rfl,rfl⟩:=h;exact .inr (.inr (.inr ⟨_,_,_,_,rfl,rfl⟩))
section
variable {g:List Nat} {o o' : Option Zl}
theorem ZsT (h:Zco g o o') (sz id n:Nat):Zdk sz id n o'=Zdk sz id n o:=by
 rcases Zcp h with ⟨s,xs,e,f,e',f',rfl,rfl⟩ | ⟨rfl,rfl⟩ | ⟨cs,rfl,rfl⟩ | ⟨s,n,xs,l,rfl,rfl⟩<;>rfl
theorem Zqa (h:Zco g o o') (sz id off m n:Nat):Zcu sz id off m n o'=Zcu sz id off m n o:=by
 rcases Zcp h with ⟨s,xs,e,f,e',f',rfl,rfl⟩ | ⟨rfl,rfl⟩ | ⟨cs,rfl,rfl⟩ | ⟨s,n,xs,l,rfl,rfl⟩<;>rfl
theorem Zqb (h:Zco g o o') (s id:Nat) (lo hi:Option AV):Zcv s id lo hi o'=Zcv s id lo hi o:=by
 rcases Zcp h with ⟨s,xs,e,f,e',f',rfl,rfl⟩ | ⟨rfl,rfl⟩ | ⟨cs,rfl,rfl⟩ | ⟨s,n,xs,l,rfl,rfl⟩<;>rfl
theorem ZnY (h:Zco g o o') (s id off n:Nat) (lo hi:Option AV):ZaC s id off n lo hi o'=ZaC s id off n lo hi o:=by
 rcases Zcp h with ⟨s,xs,e,f,e',f',rfl,rfl⟩ | ⟨rfl,rfl⟩ | ⟨cs,rfl,rfl⟩ | ⟨s,n,xs,l,rfl,rfl⟩<;>rfl
theorem ZlQ {id i off:Nat} {l l' : Option (Nat×Nat×Nat)} {x:D} {v:AV} (h:Zep id i off l x=some v) (ho:okV v=true):Zep id i off l' x=some v∧∃ d,v=.d d:=by
 unfold Zep at h ⊢;split at h
 ·unfold ZuF at h;split at h
  ·split at h
   ·cases h;cases ho
   ·cases h
  ·cases h
 ·split at h
  ·rename_i hp;cases h;exact⟨by rw[Ki hp],_,rfl⟩
  ·cases h
 ·cases h
theorem Zjn {id:Nat} (h:Zco g o o') {a:Bool} {s sz i off:Nat} {v:AV} (ho:okV v=true):Za1 id a s sz i off o'=some v↔Za1 id a s sz i off o=some v:=by
 rcases Zcp h with ⟨s,xs,e,f,e',f',rfl,rfl⟩ | ⟨rfl,rfl⟩ | ⟨cs,rfl,rfl⟩ | ⟨s,n,xs,l,rfl,rfl⟩
 ·exact Iff.rfl
 ·exact Iff.rfl
 ·exact Iff.rfl
 ·simp only[Za1];split
  ·split
   ·exact Iff.rfl
   ·constructor<;>intro hh<;>obtain⟨x,h1,hh⟩:=Za hh<;>rw[h1,Zg]<;>exact(ZlQ hh ho).1
  ·exact Iff.rfl
end
section
variable {hp hp' : Hp} {g:List Nat}
def Zjo (g:List Nat) (hp hp' : Hp) (v:AV):Prop:=∀ k∈ZB v,Zco g (lkp hp k) (lkp hp' k)
theorem Zel {v:AV} (h:Zjo g hp hp' v):ZdC hp' v=ZdC hp v:=by
 cases v<;>simp only[ZdC]
 case d x=>cases x<;>rfl
 case own id=>rw[Zv8 (h id (by simp[ZB,ZC,Zm]))]
theorem Zbx {v:AV} (h:Zjo g hp hp' v) (sz n:Nat):Qy hp' sz n v=Qy hp sz n v:=by
 cases v<;>simp only[Qy]
 case d x=>cases x<;>rfl
 case own id=>rw[ZsT (h id (by simp[ZB,ZC,Zm]))]
 case ownv id off n=>rw[Zqa (h id (by simp[ZB,ZC,Zm]))]
theorem Zgt {v:AV} (h:Zjo g hp hp' v) (s:Nat) (lo hi:Option AV):Wm hp' s lo hi v=Wm hp s lo hi v:=by
 cases v<;>simp only[Wm]
 case d x=>cases x<;>rfl
 case own id=>rw[Zqb (h id (by simp[ZB,ZC,Zm]))]
 case ownv id off n=>rw[ZnY (h id (by simp[ZB,ZC,Zm]))]
theorem Zyk {x v:AV} (hs:Zjo g hp hp' x) {a:Bool} {s:Nat} (h:Uz hp a s x=some v) (ho:okV v=true) (hk:kill g v=v):Uz hp' a s x=some v:=by
 cases x<;>simp only[Uz] at h ⊢ <;> first | (cases h;done) | skip
 case ptr id off=>
  rcases Zcp (hs id (by simp[ZB,ZC,Zm])) with ⟨_,_,_,_,_,_,e1,e2⟩ | ⟨e1,e2⟩ | ⟨cs,e1,e2⟩ | ⟨_,_,_,_,e1,e2⟩
  ·rw[e1] at h;cases h
  ·rw[e1] at h;cases h
  ·rw[e1] at h;rw[e2];exact Zut h ho hk
  ·rw[e1] at h;cases h
 case prow id sz i off=>exact(Zjn (hs id (by simp[ZB,ZC,Zm])) ho).2 h
 case pim cs=>exact h
theorem Zyl {id:Nat} {a:Bool} {s sz i off:Nat} {o:Option Zl} {v:AV} (h:Za1 id a s sz i off o=some v) (ho:okV v=true):∃ d,v=.d d:=by
 unfold Za1 at h;split at h
 ·split at h
  ·obtain⟨x,_,h⟩:=Za h;unfold Zjt at h;split at h
   ·unfold ZdE at h;split at h
    ·split at h
     ·cases h;exact⟨_,rfl⟩
     ·cases h
    ·unfold asD at h;obtain⟨y,_,h⟩:=Za h;cases h;exact⟨_,rfl⟩
   ·cases h
  ·cases h
 ·split at h
  ·split at h
   ·cases h
   ·obtain⟨x,_,h⟩:=Za h;exact(ZlQ (l':=none) h ho).2
  ·cases h
 ·cases h
theorem ZzC {a:Bool} {s off:Nat} {cs:List D} {v:AV} (h:ZdE a s off cs=some v):∃ d,v=.d d:=by
 unfold ZdE at h;split at h
 ·split at h
  ·cases h;exact⟨_,rfl⟩
  ·cases h
 ·unfold asD at h;obtain⟨y,_,h⟩:=Za h;cases h;exact⟨_,rfl⟩
theorem Zym {x v:AV} (hs:Zjo g hp hp' x) {a:Bool} {s:Nat} (h:Uz hp' a s x=some v) (ho:okV v=true):Uz hp a s x=some v∧kill g v=v:=by
 cases x<;>simp only[Uz] at h ⊢ <;> first | (cases h;done) | skip
 case ptr id off=>
  rcases Zcp (hs id (by simp[ZB,ZC,Zm])) with ⟨_,_,_,_,_,_,e1,e2⟩ | ⟨e1,e2⟩ | ⟨cs,e1,e2⟩ | ⟨_,_,_,_,e1,e2⟩
  ·rw[e2] at h;cases h
  ·rw[e2] at h;cases h
  ·rw[e2] at h;rw[e1];exact Zuu h ho
  ·rw[e2] at h;cases h
 case prow id sz i off=>
  have h:=(Zjn (hs id (by simp[ZB,ZC,Zm])) ho).1 h;obtain⟨d,rfl⟩:=Zyl h ho;exact⟨h,rfl⟩
 case pim cs=>
  obtain⟨d,rfl⟩:=ZzC h;exact⟨h,rfl⟩
theorem ZlR {x:AV} {d:D} {e:Bool} (h:ZbP hp x=some (d,e,[])) (hp' : Hp):ZbP hp' x=some (d,e,[]):=by
 cases x<;>simp only[ZbP] at h ⊢ <;> first | exact h | skip
 case own id=>obtain⟨q,_,h⟩:=Za h;simp at h
theorem ZlS:∀ {xs:List AV} {d:List D} {e:Bool},Wp hp xs=some (d,e,[])→∀ hp' : Hp,Wp hp' xs=some (d,e,[])
 | [],d,e,h,hp'=>h
 | x :: xs,d,e,h,hp'=>by
  simp only[Wp] at h ⊢;obtain⟨⟨d1,e1,l1⟩,h1,h⟩:=Za h;obtain⟨⟨d2,e2,l2⟩,h2,h⟩:=Za h;have hl:l1=[]∧l2=[]:=by
   simp only at h;split at h
   ·simp only[Option.some.injEq,Prod.mk.injEq,LL] at h;exact h.2.2
   ·cases h
  obtain⟨rfl,rfl⟩:=hl;rw[ZlR h1 hp',Zg,ZlS h2 hp',Zg];exact h
theorem Zv9 {x:AV} {d:D} {e:Bool} (h:give hp x=some (d,e,[])) (hp' : Hp):give hp' x=some (d,e,[]):=by
 cases x<;>simp only[give] at h ⊢ <;> first | exact ZlR h hp' | skip
 case agg cs=>
  obtain⟨⟨d1,e1,l1⟩,h1,h⟩:=Za h;simp only[Option.some.injEq,Prod.mk.injEq] at h;obtain⟨rfl,rfl,rfl⟩:=h;rw[ZlS h1 hp',Zg]
theorem Zh9:∀ {xs:List AV} {d:List D} {e:Bool},WZ hp xs=some (d,e,[])→∀ hp' : Hp,WZ hp' xs=some (d,e,[])
 | [],d,e,h,hp'=>h
 | x :: xs,d,e,h,hp'=>by
  simp only[WZ] at h ⊢;obtain⟨⟨d1,e1,l1⟩,h1,h⟩:=Za h;obtain⟨⟨d2,e2,l2⟩,h2,h⟩:=Za h;have hl:l1=[]∧l2=[]:=by
   simp only at h;split at h
   ·simp only[Option.some.injEq,Prod.mk.injEq,LL] at h;exact h.2.2
   ·cases h
  obtain⟨rfl,rfl⟩:=hl;rw[Zv9 h1 hp',Zg,Zh9 h2 hp',Zg];exact h
theorem Zia {base s:Nat} {vs:List AV} {ce:Zd} (h:buildSl hp base s vs=some ce) (hf:ce.eff.frz=[]) (hp' : Hp) :
  buildSl hp' base s vs=some ce∧(ce.eff.val=.nil∨ce.eff.val=.own base)∧(∀ k o,(k,o)∈ce.eff.adds→∃ sz xs e f,o=.row sz xs e f):=by
 cases vs with
 | nil=>simp only[buildSl,QM] at h ⊢;cases h;exact⟨rfl,.inl rfl,fun k o h=>by simp at h⟩
 | cons v vs=>
  simp only[buildSl] at h ⊢;obtain⟨⟨ds,e,l⟩,h1,h⟩:=Za h;unfold Zwf at h;split at h
  ·rename_i hc;cases h;simp only at hf;subst hf;rw[Zh9 h1 hp',Zg];refine⟨?_,.inr rfl,fun k o ho=>?_⟩
   ·unfold Zwf;rw[Ki hc]
   ·simp at ho;obtain⟨rfl,rfl⟩:=ho;exact⟨_,_,_,_,rfl⟩
  ·cases h
end
theorem Zjp {C:Orc} {M:Zn} {sl:Sl} {hp hp' : Hp} {base:Nat} {c:COp} (hc:WG c=true):vop C M sl hp base c=vop C M sl hp' base c:=by
 cases c<;>first | rfl | (simp[WG] at hc)
section
variable {C:Orc} {M:Zn} {sl sl' : Sl} {hp hp' : Hp} {base:Nat} {g:List Nat}
theorem Qb {v:AV} {ce:Zd} (h:QM v=some ce):ce.eff.adds=[]:=by cases h;rfl
theorem QR {v:Option AV} {ce:Zd} (h:VE v=some ce):ce.eff.adds=[]:=by obtain⟨v,_,h⟩:=Za h;exact Qb h
theorem Zbg {v:Option AV} {ce:Zd} (h:VE v=some ce):v=some ce.eff.val:=by obtain⟨v,rfl,h⟩:=Za h;cases h;rfl
theorem Zxp {v:Option AV} {ce:Zd} {w:Option AV} (h:VE v=some ce) (hw:w=some ce.eff.val):VE w=some ce:=by
 obtain⟨v,rfl,h⟩:=Za h;cases h;rw[hw];rfl
theorem Zwa {c:COp} (hc:WG c=true) (hv:Zwt c=true) {ce:Zd} (h:vop C M sl hp base c=some ce):ce.eff.adds=[]:=by
 cases c<;>simp only[WG,Zwt,Ka] at hc hv<;>simp only[vop] at h
 case stuck=>cases h
 case move x=>exact Qb h
 case pick c a b=>
  unfold Zf3 at h;split at h
  ·split at h<;>exact Qb h
  ·cases h
 case build zs ps=>obtain⟨cs,_,h⟩:=Za h;exact Qb h
 case nilCheck x=>unfold JF at h;split at h<;>first | exact Qb h | cases h
 case bin op eq x y=>
  unfold Zjw at h;split at h
  ·split at h
   ·exact QR h
   ·cases h
  ·exact QR h
 case un op x=>exact QR h
 case eqA neg n x y=>
  unfold Zqf at h;split at h
  ·obtain⟨r,_,h⟩:=Za h;exact Qb h
  ·cases h
 case convI k x=>unfold Go.Abs.convI at h;split at h<;>first | exact Qb h | cases h
 case convS x=>unfold Go.Abs.convS at h;split at h<;>first | exact Qb h | cases h
 case sliceS x lo hi=>exact QR h
 case shift off x=>unfold VF at h;split at h<;>first | exact Qb h | cases h
 case part g s off x=>exact QR h
 case iaA len s x i=>
  obtain⟨n,_,h⟩:=Za h;unfold ZlY at h;split at h
  ·unfold VF at h;split at h<;>first | exact Qb h | cases h
  ·cases h
 case ixS x i=>
  obtain⟨n,_,h⟩:=Za h;unfold ZuI at h;split at h
  ·unfold ZrQ at h;split at h
   ·obtain⟨b,_,h⟩:=Za h;exact Qb h
   ·cases h
  ·cases h
 case ixA g s len x i=>
  obtain⟨n,_,h⟩:=Za h;unfold Zwg at h;split at h
  ·exact QR h
  ·cases h
 case nth i x=>unfold Zs1 at h;split at h<;>first | exact QR h | cases h
 case lenS x=>obtain⟨n,_,h⟩:=Za h;exact Qb h
 case min x y=>unfold Zjy at h;split at h<;>first | (split at h<;>first | exact Qb h | cases h) | cases h
 case max x y=>unfold Zjz at h;split at h<;>first | (split at h<;>first | exact Qb h | cases h) | cases h
theorem ZlT {c:AV} (h:ZdK c=true):ZT g c=c:=by cases c<;>first | rfl | cases h
theorem Ze8:∀ {cs:List AV},VZ cs=true→∀ c∈cs,ZdK c=true
 | [],_,c,hc=>by simp at hc
 | x :: l,h,c,hc=>by
  simp only[VZ,Ke] at h;rcases Kf.1 hc with rfl | hc
  ·exact h.1
  ·exact Ze8 h.2 c hc
theorem ZkC:∀ (slc:List (Option Nat)) (cs:List AV) (b:Nat),(∀ c∈(mat slc cs b).1,c∈cs∨∃ k o,c=.own k∧(k,o)∈(mat slc cs b).2)∧∀ k o,(k,o)∈(mat slc cs b).2→∃ sz,o=.row sz [] true false
 | [],cs,b=>by simp only[mat];exact⟨fun c hc=>.inl hc,fun k o h=>by simp at h⟩
 | t :: ts,[],b=>by cases t<;>(simp only[mat];exact⟨fun c hc=>.inl hc,fun k o h=>by simp at h⟩)
 | t :: ts,v :: vs,b=>by
  by_cases hv:(∃ sz,t=some sz)∧v=.nil
  ·obtain⟨⟨sz,rfl⟩,rfl⟩:=hv;obtain⟨h1,h2⟩:=ZkC ts vs (b+1);simp only[mat];refine⟨fun c hc=>?_,fun k o h=>?_⟩
   ·rcases Kf.1 hc with rfl | hc
    ·exact .inr ⟨b,_,rfl,KX ..⟩
    ·rcases h1 c hc with h | ⟨k,o,e,h⟩
     ·exact .inl (Kz _ h)
     ·exact .inr ⟨k,o,e,Kz _ h⟩
   ·rcases Kf.1 h with h | h
    ·cases h;exact⟨_,rfl⟩
    ·exact h2 k o h
  ·obtain⟨h1,h2⟩:=ZkC ts vs b;have e:mat (t :: ts) (v :: vs) b=(v :: (mat ts vs b).1,(mat ts vs b).2):=by
    cases t with
    | none=>simp[mat]
    | some sz=>cases v<;>first | (exact absurd ⟨⟨sz,rfl⟩,rfl⟩ hv) | simp[mat]
   rw[e];refine⟨fun c hc=>?_,h2⟩;rcases Kf.1 hc with rfl | hc
   ·exact .inl (KX ..)
   ·rcases h1 c hc with h | h
    ·exact .inl (Kz _ h)
    ·exact .inr h
theorem ZrE {base:Nat}:∀ {cs:List AV},VZ cs=true→cs.map (ZiC base)=cs
 | [],_=>rfl
 | c :: cs,h=>by
  simp only[VZ,Ke] at h;rw[Kj,ZrE h.2];congr 1
  cases c<;>first | rfl | (simp[ZdK] at h)
theorem ZrF:∀ {cs:List AV},VZ cs=true→XU cs=true
 | [],_=>rfl
 | c :: cs,h=>by
  simp only[VZ,Ke] at h;have:=ZrF h.2;cases c<;>first | exact this | (simp[ZdK] at h)
theorem ZlU {slc:List (Option Nat)} {cs:List AV} {ce:Zd} (hb:∀ k,base≤k→k<base+64→k∉g) (hc:VZ cs=true) (h:Zfc slc base cs=some ce) (ad:QT base (base+64) ce.eff.adds=true) :
  (∀ id∈ZB ce.eff.val,id∉g)∧∀ k o,(k,o)∈ce.eff.adds→XV g o=o:=by
 have hr:=W3 ad;unfold Zfc at h;rw[ZrE hc] at h;unfold ZkH at h;rw[Kd (by rw[ZrF hc];decide)] at h;split at h
 ·cases h;simp only at hr ⊢;obtain⟨h1,h2⟩:=ZkC slc cs (base+1);refine⟨fun id aa=>?_,fun k o hm=>?_⟩
  ·simp[ZB,ZC,Zm] at aa;subst aa;exact hb _ (Kr _) (by omega)
  ·rcases Kf.1 hm with hm | hm
   ·cases hm;simp only[XV];congr 1
    rw[KO (g:=id),Lq];intro c ab;rcases h1 c ab with h | ⟨k,o,rfl,h⟩
    ·exact ZlT (Ze8 hc c h)
    ·have:=hr k o (Kz _ h);have hk:=hb k this.1 this.2;simp[ZT,Qa,hk]
   ·obtain⟨sz,rfl⟩:=h2 k o hm;rfl
 ·cases h;simp only at hr ⊢;refine⟨fun id aa=>?_,fun k o hm=>?_⟩
  ·simp[ZB,ZC,Zm] at aa;subst aa;exact hb _ (Kr _) (by omega)
  ·simp at hm;obtain⟨rfl,rfl⟩:=hm;simp only[XV];congr 1
   rw[KO (g:=id),Lq];exact fun c ab=>ZlT (Ze8 hc c ab)
theorem Zyn {c:COp} (hc:Zos c=true) (he:∀ x∈ZI c,evO sl' x=evO sl x) (hs:∀ x∈ZI c,Zjo g hp hp' (evO sl x)) {ce:Zd}
  (hb:∀ k,base≤k→k<base+64→k∉g) (h:vop C M sl hp base c=some ce) (ab:QT base (base+64) ce.eff.adds=true) (ad:ce.eff.frz=[]) (ho:okV ce.eff.val=true) (hk:kill g ce.eff.val=ce.eff.val):vop C M sl' hp' base c=some ce∧∀ k o,(k,o)∈ce.eff.adds→XV g o=o:=by
 rw[Xg C M hp' base he];have aa:ce.eff.adds=[]→∀ k o,(k,o)∈ce.eff.adds→XV g o=o:=fun e k o hm=>by rw[e] at hm;simp at hm
 simp only[Zos,Le,Ke] at hc;rcases hc with ((hc | hc) | ⟨hc1,hc2⟩) | hc
 ·cases c<;>simp only[JK,Ka] at hc<;>simp only[vop] at h ⊢ <;> simp only[ZI] at hs
  case load a s x=>exact⟨Zxp h (Zyk (hs x (by simp)) (Zbg h) ho hk),aa (QR h)⟩
  case slice s x lo hi=>
   rw[Zgt (hs x (by simp))];exact⟨h,aa (QR h)⟩
  case slice0 x hi mx=>
   unfold slice0 at h ⊢;rw[Zel (hs x (by simp))];exact⟨h,aa (QR h)⟩
  case iaS s x i=>
   obtain⟨n,h1,h⟩:=Za h;rw[h1,Zg];unfold ZgD at h ⊢;rw[Zbx (hs x (by simp))];refine⟨h,aa ?_⟩;split at h
   ·exact QR h
   ·cases h
  case len x=>
   rw[Zel (hs x (by simp))];refine⟨h,aa ?_⟩;obtain⟨n,_,h⟩:=Za h;exact Qb h
 ·cases c<;>simp only[ZrT,Ka] at hc
  simp only[vop] at h ⊢;obtain⟨h1,h2,h3⟩:=Zia h ad hp';refine⟨h1,fun k o hm=>?_⟩;obtain⟨sz,xs,e,f,rfl⟩:=h3 k o hm;rfl
 ·rw[← Zjp (hp:=hp) hc1];exact⟨h,aa (Zwa hc1 hc2 h)⟩
 ·cases c<;>simp only[Znq,Ka] at hc
  simp only[vop] at h ⊢;exact⟨h,(ZlU hb hc h ab).2⟩
theorem Zwb {c:COp} (hc:ZjE c=true) (he:∀ x∈ZI c,evO sl' x=evO sl x) (hs:∀ x∈ZI c,Zjo g hp hp' (evO sl x)) {ce:Zd}
  (hn:∀ x∈ZI c,∀ id∈ZB (evO sl x),id∉g) (hb:∀ k,base≤k→k<base+64→k∉g)
  (h:vop C M sl' hp' base c=some ce) (ad:QT base (base+64) ce.eff.adds=true) (ae:ce.eff.frz=[]) (ho:okV ce.eff.val=true):vop C M sl hp base c=some ce∧kill g ce.eff.val=ce.eff.val∧∀ k o,(k,o)∈ce.eff.adds→XV g o=o:=by
 rw[Xg C M hp' base he] at h;have aa:ce.eff.adds=[]→∀ k o,(k,o)∈ce.eff.adds→XV g o=o:=fun e k o hm=>by rw[e] at hm;simp at hm
 have names:(∀ id∈ZB ce.eff.val,id∉g)→kill g ce.eff.val=ce.eff.val:=Zxo ho;cases c<;>simp only[ZjE,Ka] at hc<;>simp only[vop] at h ⊢ <;> simp only[ZI] at hs hn
 case alloc slc cs=>
  obtain⟨h1,h2⟩:=ZlU hb hc h ad;exact⟨h,names h1,h2⟩
 case buildSl s xs=>
  obtain⟨h1,h2,h3⟩:=Zia h ae hp;refine⟨h1,names fun id ab=>?_,fun k o hm=>?_⟩
  ·rcases h2 with h2 | h2
   ·rw[h2] at ab;simp[ZB,ZC,Zm] at ab
   ·rw[h2] at ab;simp[ZB,ZC,Zm] at ab;subst ab;exact hb _ (Kr _) (by omega)
  ·obtain⟨sz,xs,e,f,rfl⟩:=h3 k o hm;rfl
 case load a s x=>
  obtain⟨h1,h2⟩:=Zym (hs x (by simp)) (Zbg h) ho;exact⟨Zxp h h1,h2,aa (QR h)⟩
 case nilCheck x=>
  have hx:=hn x (by simp);refine⟨h,names ?_,aa ?_⟩
  ·unfold JF at h;split at h<;>rename_i hv<;>first | (cases h;done) | (cases h;show ∀ id∈ZB _,_;rw[← hv];exact hx)
  ·unfold JF at h;split at h<;>first | exact Qb h | cases h
 case bin op eq x y=>
  have hd:∃ d,ce.eff.val=.d d:=by
   have o2:∀ {a b:AV},VE (vbin op a b)=some ce→∃ d,ce.eff.val=.d d:=fun {a b} h=>by
    have h1:=Zbg h;unfold vbin at h1;split at h1
    ·unfold Jy at h1;split at h1
     ·obtain⟨y,_,h1⟩:=Za h1;exact⟨_,(Option.some.inj h1).symm⟩
     ·obtain⟨y,_,h1⟩:=Za h1;exact⟨_,(Option.some.inj h1).symm⟩
     ·split at h1
      ·obtain⟨y,_,h1⟩:=Za h1;have:=Option.some.inj h1;exact⟨_,this.symm⟩
      ·cases h1
    ·obtain⟨y,_,h1⟩:=Za h1;have:=Option.some.inj h1;exact⟨_,this.symm⟩
    ·cases h1
   unfold Zjw at h;split at h
   ·split at h
    ·have h1:=Zbg h;unfold Zrn at h1;split at h1
     ·exact⟨_,(Option.some.inj h1).symm⟩
     ·exact⟨_,(Option.some.inj h1).symm⟩
     ·cases h1
    ·cases h
   ·exact o2 h
  obtain⟨d,hd⟩:=hd;refine⟨h,by rw[hd];rfl,aa ?_⟩;unfold Zjw at h;split at h
  ·split at h
   ·exact QR h
   ·cases h
  ·exact QR h
 case un op x=>
  have hd:∃ d,ce.eff.val=.d d:=by
   have h1:=Zbg h;unfold vun at h1;split at h1
   ·unfold neg1 at h1;split at h1
    ·exact⟨_,(Option.some.inj h1).symm⟩
    ·cases h1
   ·unfold not1 at h1;split at h1
    ·exact⟨_,(Option.some.inj h1).symm⟩
    ·cases h1
   ·cases h1
  obtain⟨d,hd⟩:=hd;exact⟨h,by rw[hd];rfl,aa (QR h)⟩
 case convI k x=>
  unfold Go.Abs.convI at h ⊢;split at h
  ·exact⟨h,by cases h;rfl,aa (Qb h)⟩
  ·cases h
 case shift off x=>
  have hx:=hn x (by simp);refine⟨h,names ?_,aa ?_⟩
  ·unfold VF at h;split at h<;>rename_i hv<;>first | (cases h;done) | skip
   ·cases h;rw[hv] at hx;simpa [ZB,ZC,Zm] using hx
   ·cases h;rw[hv] at hx;simpa [ZB,ZC,Zm] using hx
   ·cases h;simp[ZB,ZC,Zm]
  ·unfold VF at h;split at h<;>first | exact Qb h | cases h
 case slice s x lo hi=>
  have hx:=hn x (by simp);rw[Zgt (hs x (by simp))] at h;refine⟨h,names ?_,aa (QR h)⟩;have h1:=Zbg h;cases hv:evO sl x<;>rw[hv] at h1 hx<;>simp only[Wm] at h1<;>first | (cases h1;done) | skip
  case d y=>
   cases y<;>simp only[Wm] at h1<;>first | (cases h1;done) | skip
   split at h1
   ·obtain⟨b,_,h1⟩:=Za h1;rw[← Option.some.inj h1];simp[ZB,ZC,Zm]
   ·cases h1
  case nil=>obtain⟨b,_,h1⟩:=Za h1;rw[← Option.some.inj h1];simp[ZB,ZC,Zm]
  case own id=>
   unfold Zcv at h1;split at h1
   ·split at h1
    ·unfold ZuH at h1;split at h1
     ·rw[← Option.some.inj h1];exact hx
     ·obtain⟨b,_,h1⟩:=Za h1;rw[← Option.some.inj h1];simpa [ZB,ZC,Zm] using hx
    ·cases h1
   ·cases h1
  case ownv id off n=>
   unfold ZaC at h1;split at h1
   ·split at h1
    ·obtain⟨b,_,h1⟩:=Za h1;rw[← Option.some.inj h1];simpa [ZB,ZC,Zm] using hx
    ·cases h1
   ·cases h1
 case sliceS x lo hi=>
  have hd:∃ d,ce.eff.val=.d d:=by
   have h1:=Zbg h;unfold sliceS at h1;split at h1
   ·obtain⟨b,_,h1⟩:=Za h1;exact⟨_,(Option.some.inj h1).symm⟩
   ·cases h1
  obtain⟨d,hd⟩:=hd;exact⟨h,by rw[hd];rfl,aa (QR h)⟩
 case lenS x=>
  obtain⟨n,h1,h⟩:=Za h;refine⟨by rw[h1,Zg];exact h,by cases h;rfl,aa (Qb h)⟩
 case iaS s x i=>
  have hx:=hn x (by simp);obtain⟨n,h1,h⟩:=Za h;rw[h1,Zg];unfold ZgD at h ⊢;rw[Zbx (hs x (by simp))] at h;refine⟨h,names ?_,aa ?_⟩
  ·split at h
   ·have h1:=Zbg h;cases hv:evO sl x<;>rw[hv] at h1 hx<;>simp only[Qy] at h1<;>first | (cases h1;done) | skip
    case d y=>
     cases y<;>simp only[Qy] at h1<;>first | (cases h1;done) | skip
     obtain⟨b,_,h1⟩:=Za h1;unfold Zxx at h1;split at h1
     ·rw[← Option.some.inj h1];simp[ZB,ZC,Zm]
     ·cases h1
    case own id=>
     unfold Zdk at h1;split at h1
     ·split at h1
      ·rw[← Option.some.inj h1];simpa [ZB,ZC,Zm] using hx
      ·cases h1
     ·split at h1
      ·rw[← Option.some.inj h1];simpa [ZB,ZC,Zm] using hx
      ·cases h1
     ·cases h1
    case ownv id off n=>
     unfold Zcu at h1;split at h1
     ·split at h1
      ·rw[← Option.some.inj h1];simpa [ZB,ZC,Zm] using hx
      ·cases h1
     ·cases h1
   ·cases h
  ·split at h
   ·exact QR h
   ·cases h
 case len x=>
  rw[Zel (hs x (by simp))] at h;obtain⟨n,h1,h2⟩:=Za h;exact⟨h,by cases h2;rfl,aa (Qb h2)⟩
end
end Go.Abs
