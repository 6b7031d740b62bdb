/- The abstract semantics: calls in regions that draw. Own text. -/
import Derived.Test.YtpobhkoombldlaaGreatAbsDraw3
import Derived.Test.YtpobhkoombldlaaGreatAbsSound5
set_option linter.unusedVariables false
set_option linter.unusedSimpArgs false
namespace Go.Abs
open Go
theorem Zx0 {v:AV} (h:okC v=true):okV v=true:=by
 cases v<;>first | exact h | cases h
theorem ZmH {g:List Nat} {v:AV} (h:okC (Qr g v)=true):Qr g v=v:=by
 cases v<;>simp only[Qr] at h ⊢ <;> first | rfl | (split at h<;>rename_i h' <;> first | (cases h;done) | rw[if_neg h'])
theorem ZkD {g:List Nat}:∀ {cs:List AV},Zt4 (cs.map (Qr g))=true→cs.map (Qr g)=cs
 | [],_=>rfl
 | c :: cs,h=>by
  simp only[List.map_cons,Zt4,Bool.and_eq_true] at h ⊢
  rw[ZmH h.1,ZkD h.2]
theorem Zff {g:List Nat} {v:AV} (h:okV (Z9 g v)=true):Z9 g v=v:=by
 cases v with
 | agg cs=>simp only[Z9,okV] at h ⊢;rw[ZkD h]
 | clo f cs=>simp only[Z9,okV,okC] at h;cases h
 | tup vs=>rfl
 | _=>
  simp only[Z9] at h ⊢
  refine ZmH ?_
  revert h
  simp only[Qr]
  first | exact id | (split<;>first | exact id | (intro h;cases h))
theorem ZdM {g:List Nat} {v:AV} (h:okV (kill g v)=true):kill g v=v:=by
 cases v with
 | tup vs=>
  cases vs with
  | nil=>rfl
  | cons x r=>simp only[kill,List.map_cons,okV,okC] at h;cases h
 | _=>simp only[kill] at h ⊢;exact Zff h
theorem Zvc {g:List Nat} {v:AV} (hn:∀ id∈Zq v,id∉g):Qr g v=v:=by
 cases v<;>simp only[Qr]<;>first | rfl | (rw[if_neg];simpa [Zq] using hn)
theorem Zx1 {g:List Nat} {v:AV} (h:okV v=true) (hn:∀ id∈ZJ v,id∉g):kill g v=v:=by
 cases v with
 | tup vs=>
  cases vs with
  | nil=>rfl
  | cons x r=>simp only[okV,okC] at h;cases h
 | clo f cs=>simp only[okV,okC] at h;cases h
 | agg cs=>
  simp only[kill,Z9]
  congr 1
  rw[List.map_congr_left (g:=id),List.map_id]
  intro c hc
  exact Zvc fun id hid=>hn id (by simp only[ZJ,ZK,List.mem_flatMap];exact⟨c,hc,hid⟩)
 | _=>simp only[kill,Z9];exact Zvc hn
theorem Zz0 {g:List Nat} {v:AV} (h:kill g v=v):∀ id∈ZJ v,id∉g:=fun id hid=>(ZmD g v id (by rw[h];exact hid)).2
theorem ZyK {g:List Nat} {c:AV} (h:okC c=true) (h1:Qr g c=c):Z9 g c=c:=by
 cases c<;>simp only[Z9]<;>first | exact h1 | cases h
def ZdN (g:List Nat):Option Zt→Option Zt→Prop
 | none,none=>True
 | some (.row s xs _ _),some (.row s' xs' _ _)=>s'=s∧xs'=xs
 | some (.box cs),some (.box cs')=>cs'=cs.map (Z9 g)
 | some (.deep s n xs l),some (.deep s' n' xs' l')=>s'=s∧n'=n∧xs'=xs∧l'=Zhn g l
 | _,_=>False
theorem Zvd {g:List Nat} {b:Bool} (o:Option Zt):ZdN g o ((o.map (YB g)).map fun o=>if b then WM o else o):=by
 cases o with
 | none=>trivial
 | some o=>cases o<;>cases b<;>exact(by first | exact⟨rfl,rfl⟩ | exact rfl | exact⟨rfl,rfl,rfl,rfl⟩)
theorem ZsA {g:List Nat}:∀ {l:List AV} {ds:List D},Zjl l=some ds→l.map (Z9 g)=l
 | [],ds,_=>rfl
 | v :: l,ds,h=>by
  simp only[Zjl] at h
  obtain⟨x,h1,h⟩:=Za h
  obtain⟨ds',h2,h⟩:=Za h
  have:Z9 g v=v:=by cases v<;>first | rfl | cases h1
  rw[List.map_cons,this,ZsA h2]
theorem Zpr {g:List Nat}:∀ {l:List AV} {ds:List D},Zjl (l.map (Z9 g))=some ds→l.map (Z9 g)=l
 | [],ds,_=>rfl
 | v :: l,ds,h=>by
  simp only[List.map_cons,Zjl] at h
  obtain⟨x,h1,h⟩:=Za h
  obtain⟨ds',h2,h⟩:=Za h
  have hv:Z9 g v=v:=by
   refine Zff ?_
   cases hk:Z9 g v<;>rw[hk] at h1<;>first | rfl | cases h1
  rw[List.map_cons,hv,Zpr h2]
theorem Zhs (l:List AV):(∃ ds,Zjl l=some ds∧Zc9 l=.d (.agg ds))∨(Zjl l=none∧(Zc9 l=.junk∨Zc9 l=.agg l)):=by
 unfold Zc9
 cases h:Zjl l with
 | some ds=>exact .inl ⟨ds,rfl,rfl⟩
 | none=>
  refine .inr ⟨rfl,?_⟩
  unfold ZiQ
  split
  ·rename_i h;cases h
  ·split
   ·exact .inl rfl
   ·exact .inr rfl
theorem Zln:∀ {l:List AV},Zt4 l=true→∀ c∈l,okC c=true
 | [],_,c,hc=>by simp at hc
 | x :: l,h,c,hc=>by
  simp only[Zt4,Bool.and_eq_true] at h
  rcases List.mem_cons.1 hc with rfl | hc
  ·exact h.1
  ·exact Zln h.2 c hc
theorem ZyL {g:List Nat} {l:List AV} (h:okV (Zc9 l)=true) (hk:kill g (Zc9 l)=Zc9 l):l.map (Z9 g)=l:=by
 rcases Zhs l with ⟨ds,h1,h2⟩ | ⟨h1,h2 | h2⟩
 ·exact ZsA h1
 ·rw[h2] at h;cases h
 ·rw[h2] at h hk
  simp only[kill,Z9,AV.agg.injEq] at hk
  simp only[okV] at h
  have hm:=Zln h
  have hk' : ∀ c∈l,Qr g c=c:=by
   intro c hc
   have:=ZkD (g:=g) (cs:=l) (by rw[hk];exact h)
   exact ZmH (by
    have h3:Qr g c∈l.map (Qr g):=List.mem_map_of_mem hc
    rw[hk] at h3
    exact hm _ h3)
  rw[List.map_congr_left (g:=id),List.map_id]
  intro c hc
  exact ZyK (hm c hc) (hk' c hc)
theorem ZyM {g:List Nat} {l:List AV} (h:okV (Zc9 (l.map (Z9 g)))=true):l.map (Z9 g)=l:=by
 rcases Zhs (l.map (Z9 g)) with ⟨ds,h1,h2⟩ | ⟨h1,h2 | h2⟩
 ·exact Zpr h1
 ·rw[h2] at h;cases h
 ·rw[h2] at h
  simp only[okV] at h
  have hm:=Zln h
  rw[List.map_congr_left (g:=id),List.map_id]
  intro c hc
  exact Zff (Zx0 (hm _ (List.mem_map_of_mem hc)))
theorem ZwP {g:List Nat} {v:AV} (h:okV v=true) (hk:kill g v=v):Z9 g v=v:=by
 cases v with
 | tup vs=>rfl
 | _=>simp only[kill] at hk;exact hk
theorem ZwQ {g:List Nat} {v:AV} (h:okV v=true) (hk:Z9 g v=v):kill g v=v:=by
 cases v with
 | tup vs=>
  cases vs with
  | nil=>rfl
  | cons x r=>simp only[okV,okC] at h;cases h
 | _=>simp only[kill];exact hk
theorem Zjv {α β:Type} (f:α→β) (l:List α) (a b:Nat):((l.map f).drop a).take b=((l.drop a).take b).map f:=by
 rw[← List.map_drop,← List.map_take]
theorem Zve {g:List Nat} {cs:List AV} {a:Bool} {s off:Nat} {v:AV} (h:Zcj a s off (some (.box cs))=some v) (ho:okV v=true) (hk:kill g v=v):Zcj a s off (some (.box (cs.map (Z9 g))))=some v:=by
 unfold Zcj at h ⊢
 cases a with
 | true=>
  simp only[if_true] at h ⊢
  split at h
  ·rename_i hl
   cases h
   rw[if_pos (by simpa using hl),Zjv,ZyL ho hk]
  ·cases h
 | false=>
  simp only[Bool.false_eq_true,if_false] at h ⊢
  rw[List.getElem?_map,h]
  simp only[Option.map_some]
  rw[ZwP ho hk]
theorem Zvf {g:List Nat} {cs:List AV} {a:Bool} {s off:Nat} {v:AV} (h:Zcj a s off (some (.box (cs.map (Z9 g))))=some v) (ho:okV v=true):Zcj a s off (some (.box cs))=some v∧kill g v=v:=by
 unfold Zcj at h ⊢
 cases a with
 | true=>
  simp only[if_true] at h ⊢
  split at h
  ·rename_i hl
   cases h
   rw[Zjv] at ho ⊢
   have he:=ZyM ho
   rw[he] at ho ⊢
   refine⟨by rw[if_pos (by simpa using hl)],?_⟩
   rcases Zhs ((cs.drop off).take s) with ⟨ds,h1,h2⟩ | ⟨h1,h2 | h2⟩
   ·rw[h2];rfl
   ·rw[h2] at ho;cases ho
   ·rw[h2] at ho ⊢
    simp only[okV] at ho
    have hm:=Zln ho
    simp only[kill,Z9,AV.agg.injEq]
    rw[List.map_congr_left (g:=id),List.map_id]
    intro c hc
    have h3:Z9 g c=c:=by
     refine Zff ?_
     have h4:Z9 g c∈((cs.drop off).take s).map (Z9 g):=List.mem_map_of_mem hc
     rw[he] at h4
     exact Zx0 (hm _ h4)
    have:=hm c hc
    cases c<;>first | exact h3 | cases this
  ·cases h
 | false=>
  simp only[Bool.false_eq_true,if_false] at h ⊢
  rw[List.getElem?_map] at h
  cases hc:cs[off]? with
  | none=>rw[hc] at h;cases h
  | some c=>
   rw[hc] at h
   simp only[Option.map_some,Option.some.injEq] at h
   have h3:Z9 g c=c:=Zff (by rw[h];exact ho)
   rw[h3] at h
   subst h
   exact⟨rfl,ZwQ ho h3⟩
theorem ZwR {g:List Nat} {o o' : Option Zt} (h:ZdN g o o'):ZaQ o'=ZaQ o:=by
 cases o with
 | none=>cases o' with
  | none=>rfl
  | some o'=>cases h
 | some o=>cases o' with
  | none=>cases o<;>cases h
  | some o'=>cases o<;>cases o' <;> simp only[ZdN] at h<;>first | (cases h;done) | rfl | (obtain⟨rfl,rfl⟩:=h;rfl) | (obtain⟨_,_,rfl,_⟩:=h;rfl)
theorem ZdO {g:List Nat} {o o' : Option Zt} (h:ZdN g o o'):(∃ s xs e f e' f',o=some (.row s xs e f)∧o'=some (.row s xs e' f'))∨(o=none∧o'=none)∨(∃ cs,o=some (.box cs)∧o'=some (.box (cs.map (Z9 g))))∨(∃ s n xs l,o=some (.deep s n xs l)∧o'=some (.deep s n xs (Zhn g l))):=by
 cases o with
 | none=>cases o' with
  | none=>exact .inr (.inl ⟨rfl,rfl⟩)
  | some o'=>cases h
 | some o=>cases o' with
  | none=>cases o<;>cases h
  | some o' =>
   cases o with
   | box cs=>cases o' with
    | box cs'=>simp only[ZdN] at h;subst h;exact .inr (.inr (.inl ⟨cs,rfl,rfl⟩))
    | row _ _ _ _=>cases h
    | deep _ _ _ _=>cases h
   | row s xs e f=>cases o' with
    | box cs'=>cases h
    | row s' xs' e' f'=>simp only[ZdN] at h;obtain⟨rfl,rfl⟩:=h;exact .inl ⟨_,_,_,_,_,_,rfl,rfl⟩
    | deep _ _ _ _=>cases h
   | deep s n xs l=>cases o' with
    | box cs'=>cases h
    | row _ _ _ _=>cases h
    | deep s' n' xs' l'=>simp only[ZdN] at h;obtain⟨rfl,rfl,rfl,rfl⟩:=h;exact .inr (.inr (.inr ⟨_,_,_,_,rfl,rfl⟩))
section
variable {g:List Nat} {o o' : Option Zt}
theorem ZtI (h:ZdN g o o') (sz id n:Nat):Zeu sz id n o'=Zeu sz id n o:=by
 rcases ZdO h with ⟨s,xs,e,f,e',f',rfl,rfl⟩ | ⟨rfl,rfl⟩ | ⟨cs,rfl,rfl⟩ | ⟨s,n,xs,l,rfl,rfl⟩<;>rfl
theorem Zrw (h:ZdN g o o') (sz id off m n:Nat):ZdT sz id off m n o'=ZdT sz id off m n o:=by
 rcases ZdO h with ⟨s,xs,e,f,e',f',rfl,rfl⟩ | ⟨rfl,rfl⟩ | ⟨cs,rfl,rfl⟩ | ⟨s,n,xs,l,rfl,rfl⟩<;>rfl
theorem Zrx (h:ZdN g o o') (s id:Nat) (lo hi:Option AV):ZdU s id lo hi o'=ZdU s id lo hi o:=by
 rcases ZdO h with ⟨s,xs,e,f,e',f',rfl,rfl⟩ | ⟨rfl,rfl⟩ | ⟨cs,rfl,rfl⟩ | ⟨s,n,xs,l,rfl,rfl⟩<;>rfl
theorem Zps (h:ZdN g o o') (s id off n:Nat) (lo hi:Option AV):ZbS s id off n lo hi o'=ZbS s id off n lo hi o:=by
 rcases ZdO h with ⟨s,xs,e,f,e',f',rfl,rfl⟩ | ⟨rfl,rfl⟩ | ⟨cs,rfl,rfl⟩ | ⟨s,n,xs,l,rfl,rfl⟩<;>rfl
theorem ZnF {id i off:Nat} {l l' : Option (Nat×Nat×Nat)} {x:D} {v:AV} (h:Zfk id i off l x=some v) (ho:okV v=true):Zfk id i off l' x=some v∧∃ d,v=.d d:=by
 unfold Zfk at h ⊢
 split at h
 ·unfold Zvs at h
  split at h
  ·split at h
   ·cases h;cases ho
   ·cases h
  ·cases h
 ·split at h
  ·rename_i hp;cases h;exact⟨by rw[if_pos hp],_,rfl⟩
  ·cases h
 ·cases h
theorem Zlo {id:Nat} (h:ZdN g o o') {a:Bool} {s sz i off:Nat} {v:AV} (ho:okV v=true):Zck id a s sz i off o'=some v↔Zck id a s sz i off o=some v:=by
 rcases ZdO h with ⟨s,xs,e,f,e',f',rfl,rfl⟩ | ⟨rfl,rfl⟩ | ⟨cs,rfl,rfl⟩ | ⟨s,n,xs,l,rfl,rfl⟩
 ·exact Iff.rfl
 ·exact Iff.rfl
 ·exact Iff.rfl
 ·simp only[Zck]
  split
  ·split
   ·exact Iff.rfl
   ·constructor<;>intro hh<;>obtain⟨x,h1,hh⟩:=Za hh<;>rw[h1,Zj]<;>exact(ZnF hh ho).1
  ·exact Iff.rfl
end
section
variable {hp hp' : Hp} {g:List Nat}
def Zlp (g:List Nat) (hp hp' : Hp) (v:AV):Prop:=∀ k∈ZJ v,ZdN g (lkp hp k) (lkp hp' k)
theorem Zfg {v:AV} (h:Zlp g hp hp' v):ZeR hp' v=ZeR hp v:=by
 cases v<;>simp only[ZeR]
 case d x=>cases x<;>rfl
 case own id=>rw[ZwR (h id (by simp[ZJ,ZK,Zq]))]
theorem ZcW {v:AV} (h:Zlp g hp hp' v) (sz n:Nat):QQ hp' sz n v=QQ hp sz n v:=by
 cases v<;>simp only[QQ]
 case d x=>cases x<;>rfl
 case own id=>rw[ZtI (h id (by simp[ZJ,ZK,Zq]))]
 case ownv id off n=>rw[Zrw (h id (by simp[ZJ,ZK,Zq]))]
theorem Zht {v:AV} (h:Zlp g hp hp' v) (s:Nat) (lo hi:Option AV):Us hp' s lo hi v=Us hp s lo hi v:=by
 cases v<;>simp only[Us]
 case d x=>cases x<;>rfl
 case own id=>rw[Zrx (h id (by simp[ZJ,ZK,Zq]))]
 case ownv id off n=>rw[Zps (h id (by simp[ZJ,ZK,Zq]))]
theorem ZyN {x v:AV} (hs:Zlp g hp hp' x) {a:Bool} {s:Nat} (h:JU hp a s x=some v) (ho:okV v=true) (hk:kill g v=v):JU hp' a s x=some v:=by
 cases x<;>simp only[JU] at h ⊢ <;> first | (cases h;done) | skip
 case ptr id off=>
  rcases ZdO (hs id (by simp[ZJ,ZK,Zq])) with ⟨_,_,_,_,_,_,e1,e2⟩ | ⟨e1,e2⟩ | ⟨cs,e1,e2⟩ | ⟨_,_,_,_,e1,e2⟩
  ·rw[e1] at h;cases h
  ·rw[e1] at h;cases h
  ·rw[e1] at h;rw[e2];exact Zve h ho hk
  ·rw[e1] at h;cases h
 case prow id sz i off=>exact(Zlo (hs id (by simp[ZJ,ZK,Zq])) ho).2 h
 case pim cs=>exact h
theorem ZyO {id:Nat} {a:Bool} {s sz i off:Nat} {o:Option Zt} {v:AV} (h:Zck id a s sz i off o=some v) (ho:okV v=true):∃ d,v=.d d:=by
 unfold Zck at h
 split at h
 ·split at h
  ·obtain⟨x,_,h⟩:=Za h
   unfold Zlt at h
   split at h
   ·unfold ZeU at h
    split at h
    ·split at h
     ·cases h;exact⟨_,rfl⟩
     ·cases h
    ·unfold asD at h
     obtain⟨y,_,h⟩:=Za h
     cases h;exact⟨_,rfl⟩
   ·cases h
  ·cases h
 ·split at h
  ·split at h
   ·cases h
   ·obtain⟨x,_,h⟩:=Za h
    exact(ZnF (l':=none) h ho).2
  ·cases h
 ·cases h
theorem Zz1 {a:Bool} {s off:Nat} {cs:List D} {v:AV} (h:ZeU a s off cs=some v):∃ d,v=.d d:=by
 unfold ZeU at h
 split at h
 ·split at h
  ·cases h;exact⟨_,rfl⟩
  ·cases h
 ·unfold asD at h
  obtain⟨y,_,h⟩:=Za h
  cases h;exact⟨_,rfl⟩
theorem ZyP {x v:AV} (hs:Zlp g hp hp' x) {a:Bool} {s:Nat} (h:JU hp' a s x=some v) (ho:okV v=true):JU hp a s x=some v∧kill g v=v:=by
 cases x<;>simp only[JU] at h ⊢ <;> first | (cases h;done) | skip
 case ptr id off=>
  rcases ZdO (hs id (by simp[ZJ,ZK,Zq])) with ⟨_,_,_,_,_,_,e1,e2⟩ | ⟨e1,e2⟩ | ⟨cs,e1,e2⟩ | ⟨_,_,_,_,e1,e2⟩
  ·rw[e2] at h;cases h
  ·rw[e2] at h;cases h
  ·rw[e2] at h;rw[e1];exact Zvf h ho
  ·rw[e2] at h;cases h
 case prow id sz i off=>
  have h:=(Zlo (hs id (by simp[ZJ,ZK,Zq])) ho).1 h
  obtain⟨d,rfl⟩:=ZyO h ho
  exact⟨h,rfl⟩
 case pim cs=>
  obtain⟨d,rfl⟩:=Zz1 h
  exact⟨h,rfl⟩
theorem ZnG {x:AV} {d:D} {e:Bool} (h:Zdb hp x=some (d,e,[])) (hp' : Hp):Zdb hp' x=some (d,e,[]):=by
 cases x<;>simp only[Zdb] at h ⊢ <;> first | exact h | skip
 case own id=>obtain⟨q,_,h⟩:=Za h;simp at h
theorem ZnH:∀ {xs:List AV} {d:List D} {e:Bool},Uw hp xs=some (d,e,[])→∀ hp' : Hp,Uw hp' xs=some (d,e,[])
 | [],d,e,h,hp'=>h
 | x :: xs,d,e,h,hp'=>by
  simp only[Uw] at h ⊢
  obtain⟨⟨d1,e1,l1⟩,h1,h⟩:=Za h
  obtain⟨⟨d2,e2,l2⟩,h2,h⟩:=Za h
  have hl:l1=[]∧l2=[]:=by
   simp only at h
   split at h
   ·simp only[Option.some.injEq,Prod.mk.injEq,List.append_eq_nil_iff] at h;exact h.2.2
   ·cases h
  obtain⟨rfl,rfl⟩:=hl
  rw[ZnG h1 hp',Zj,ZnH h2 hp',Zj]
  exact h
theorem ZwS {x:AV} {d:D} {e:Bool} (h:give hp x=some (d,e,[])) (hp' : Hp):give hp' x=some (d,e,[]):=by
 cases x<;>simp only[give] at h ⊢ <;> first | exact ZnG h hp' | skip
 case agg cs=>
  obtain⟨⟨d1,e1,l1⟩,h1,h⟩:=Za h
  simp only[Option.some.injEq,Prod.mk.injEq] at h
  obtain⟨rfl,rfl,rfl⟩:=h
  rw[ZnH h1 hp',Zj]
theorem Zjw:∀ {xs:List AV} {d:List D} {e:Bool},Jg hp xs=some (d,e,[])→∀ hp' : Hp,Jg hp' xs=some (d,e,[])
 | [],d,e,h,hp'=>h
 | x :: xs,d,e,h,hp'=>by
  simp only[Jg] at h ⊢
  obtain⟨⟨d1,e1,l1⟩,h1,h⟩:=Za h
  obtain⟨⟨d2,e2,l2⟩,h2,h⟩:=Za h
  have hl:l1=[]∧l2=[]:=by
   simp only at h
   split at h
   ·simp only[Option.some.injEq,Prod.mk.injEq,List.append_eq_nil_iff] at h;exact h.2.2
   ·cases h
  obtain⟨rfl,rfl⟩:=hl
  rw[ZwS h1 hp',Zj,Zjw h2 hp',Zj]
  exact h
theorem Zjx {base s:Nat} {vs:List AV} {ce:Zf} (h:buildSl hp base s vs=some ce) (hf:ce.eff.frz=[]) (hp' : Hp) :
  buildSl hp' base s vs=some ce∧(ce.eff.val=.nil∨ce.eff.val=.own base)∧(∀ k o,(k,o)∈ce.eff.adds→∃ sz xs e f,o=.row sz xs e f):=by
 cases vs with
 | nil=>simp only[buildSl,Qs] at h ⊢;cases h;exact⟨rfl,.inl rfl,fun k o h=>by simp at h⟩
 | cons v vs=>
  simp only[buildSl] at h ⊢
  obtain⟨⟨ds,e,l⟩,h1,h⟩:=Za h
  unfold Zw4 at h
  split at h
  ·rename_i hc
   cases h
   simp only at hf
   subst hf
   rw[Zjw h1 hp',Zj]
   refine⟨?_,.inr rfl,fun k o ho=>?_⟩
   ·unfold Zw4;rw[if_pos hc]
   ·simp at ho;obtain⟨rfl,rfl⟩:=ho;exact⟨_,_,_,_,rfl⟩
  ·cases h
end
theorem Zlq {C:Orc} {M:Zu} {sl:Sl} {hp hp' : Hp} {base:Nat} {c:COp} (hc:UH c=true):vop C M sl hp base c=vop C M sl hp' base c:=by
 cases c<;>first | rfl | (simp[UH] at hc)
section
variable {C:Orc} {M:Zu} {sl sl' : Sl} {hp hp' : Hp} {base:Nat} {g:List Nat}
theorem Qk {v:AV} {ce:Zf} (h:Qs v=some ce):ce.eff.adds=[]:=by cases h;rfl
theorem Q6 {v:Option AV} {ce:Zf} (h:Ut v=some ce):ce.eff.adds=[]:=by obtain⟨v,_,h⟩:=Za h;exact Qk h
theorem Zcx {v:Option AV} {ce:Zf} (h:Ut v=some ce):v=some ce.eff.val:=by obtain⟨v,rfl,h⟩:=Za h;cases h;rfl
theorem Zx2 {v:Option AV} {ce:Zf} {w:Option AV} (h:Ut v=some ce) (hw:w=some ce.eff.val):Ut w=some ce:=by
 obtain⟨v,rfl,h⟩:=Za h;cases h;rw[hw];rfl
theorem ZwT {c:COp} (hc:UH c=true) (hv:Zxe c=true) {ce:Zf} (h:vop C M sl hp base c=some ce):ce.eff.adds=[]:=by
 cases c<;>simp only[UH,Zxe,Bool.false_eq_true] at hc hv<;>simp only[vop] at h
 case stuck=>cases h
 case move x=>exact Qk h
 case pick c a b=>
  unfold ZgE at h
  split at h
  ·split at h<;>exact Qk h
  ·cases h
 case build zs ps=>obtain⟨cs,_,h⟩:=Za h;exact Qk h
 case nilCheck x=>unfold ZaX at h;split at h<;>first | exact Qk h | cases h
 case bin op eq x y=>
  unfold Zfp at h
  split at h
  ·split at h
   ·exact Q6 h
   ·cases h
  ·exact Q6 h
 case un op x=>exact Q6 h
 case eqA neg n x y=>
  unfold ZrA at h
  split at h
  ·obtain⟨r,_,h⟩:=Za h;exact Qk h
  ·cases h
 case convI k x=>unfold Go.Abs.convI at h;split at h<;>first | exact Qk h | cases h
 case convS x=>unfold Go.Abs.convS at h;split at h<;>first | exact Qk h | cases h
 case sliceS x lo hi=>exact Q6 h
 case shift off x=>unfold WN at h;split at h<;>first | exact Qk h | cases h
 case part g s off x=>exact Q6 h
 case iaA len s x i=>
  obtain⟨n,_,h⟩:=Za h
  unfold ZnO at h
  split at h
  ·unfold WN at h;split at h<;>first | exact Qk h | cases h
  ·cases h
 case ixS x i=>
  obtain⟨n,_,h⟩:=Za h
  unfold Zvv at h
  split at h
  ·unfold ZsQ at h
   split at h
   ·obtain⟨b,_,h⟩:=Za h;exact Qk h
   ·cases h
  ·cases h
 case ixA g s len x i=>
  obtain⟨n,_,h⟩:=Za h
  unfold Zw5 at h
  split at h
  ·exact Q6 h
  ·cases h
 case nth i x=>unfold ZtR at h;split at h<;>first | exact Q6 h | cases h
 case lenS x=>obtain⟨n,_,h⟩:=Za h;exact Qk h
 case min x y=>unfold Zlx at h;split at h<;>first | (split at h<;>first | exact Qk h | cases h) | cases h
 case max x y=>unfold Zly at h;split at h<;>first | (split at h<;>first | exact Qk h | cases h) | cases h
theorem ZnI {c:AV} (h:ZhE c=true):Z9 g c=c:=by cases c<;>first | rfl | cases h
theorem Zf9:∀ {cs:List AV},Zcz cs=true→∀ c∈cs,ZhE c=true
 | [],_,c,hc=>by simp at hc
 | x :: l,h,c,hc=>by
  simp only[Zcz,Bool.and_eq_true] at h
  rcases List.mem_cons.1 hc with rfl | hc
  ·exact h.1
  ·exact Zf9 h.2 c hc
theorem ZmI:∀ (slc:List (Option Nat)) (cs:List AV) (b:Nat),(∀ c∈(mat slc cs b).1,c∈cs∨∃ k o,c=.own k∧(k,o)∈(mat slc cs b).2)∧∀ k o,(k,o)∈(mat slc cs b).2→∃ sz,o=.row sz [] true false
 | [],cs,b=>by simp only[mat];exact⟨fun c hc=>.inl hc,fun k o h=>by simp at h⟩
 | t :: ts,[],b=>by cases t<;>(simp only[mat];exact⟨fun c hc=>.inl hc,fun k o h=>by simp at h⟩)
 | t :: ts,v :: vs,b=>by
  by_cases hv:(∃ sz,t=some sz)∧v=.nil
  ·obtain⟨⟨sz,rfl⟩,rfl⟩:=hv
   obtain⟨h1,h2⟩:=ZmI ts vs (b+1)
   simp only[mat]
   refine⟨fun c hc=>?_,fun k o h=>?_⟩
   ·rcases List.mem_cons.1 hc with rfl | hc
    ·exact .inr ⟨b,_,rfl,List.mem_cons_self ..⟩
    ·rcases h1 c hc with h | ⟨k,o,e,h⟩
     ·exact .inl (List.mem_cons_of_mem _ h)
     ·exact .inr ⟨k,o,e,List.mem_cons_of_mem _ h⟩
   ·rcases List.mem_cons.1 h with h | h
    ·cases h;exact⟨_,rfl⟩
    ·exact h2 k o h
  ·obtain⟨h1,h2⟩:=ZmI ts vs b
   have e:mat (t :: ts) (v :: vs) b=(v :: (mat ts vs b).1,(mat ts vs b).2):=by
    cases t with
    | none=>simp[mat]
    | some sz=>cases v<;>first | (exact absurd ⟨⟨sz,rfl⟩,rfl⟩ hv) | simp[mat]
   rw[e]
   refine⟨fun c hc=>?_,h2⟩
   rcases List.mem_cons.1 hc with rfl | hc
   ·exact .inl (List.mem_cons_self ..)
   ·rcases h1 c hc with h | h
    ·exact .inl (List.mem_cons_of_mem _ h)
    ·exact .inr h
theorem ZnJ {slc:List (Option Nat)} {cs:List AV} {ce:Zf} (hb:∀ k,base≤k→k<base+64→k∉g) (hc:Zcz cs=true) (h:Zgd slc base cs=some ce) (hok:Q8 base (base+64) ce.eff.adds=true) :
  (∀ id∈ZJ ce.eff.val,id∉g)∧∀ k o,(k,o)∈ce.eff.adds→YB g o=o:=by
 have hr:=Jj hok
 unfold Zgd at h
 split at h
 ·cases h
  simp only at hr ⊢
  obtain⟨h1,h2⟩:=ZmI slc cs (base+1)
  refine⟨fun id hid=>?_,fun k o hm=>?_⟩
  ·simp[ZJ,ZK,Zq] at hid;subst hid;exact hb _ (Nat.le_refl _) (by omega)
  ·rcases List.mem_cons.1 hm with hm | hm
   ·cases hm
    simp only[YB]
    congr 1
    rw[List.map_congr_left (g:=id),List.map_id]
    intro c hcm
    rcases h1 c hcm with h | ⟨k,o,rfl,h⟩
    ·exact ZnI (Zf9 hc c h)
    ·have:=hr k o (List.mem_cons_of_mem _ h)
     have hk:=hb k this.1 this.2
     simp[Z9,Qr,hk]
   ·obtain⟨sz,rfl⟩:=h2 k o hm;rfl
 ·cases h
  simp only at hr ⊢
  refine⟨fun id hid=>?_,fun k o hm=>?_⟩
  ·simp[ZJ,ZK,Zq] at hid;subst hid;exact hb _ (Nat.le_refl _) (by omega)
  ·simp at hm
   obtain⟨rfl,rfl⟩:=hm
   simp only[YB]
   congr 1
   rw[List.map_congr_left (g:=id),List.map_id]
   exact fun c hcm=>ZnI (Zf9 hc c hcm)
theorem ZyQ {c:COp} (hc:ZpX c=true) (he:∀ x∈ZT c,evO sl' x=evO sl x) (hs:∀ x∈ZT c,Zlp g hp hp' (evO sl x)) {ce:Zf}
  (hb:∀ k,base≤k→k<base+64→k∉g) (h:vop C M sl hp base c=some ce) (hok:Q8 base (base+64) ce.eff.adds=true) (hfz:ce.eff.frz=[]) (ho:okV ce.eff.val=true) (hk:kill g ce.eff.val=ce.eff.val):vop C M sl' hp' base c=some ce∧∀ k o,(k,o)∈ce.eff.adds→YB g o=o:=by
 rw[X4 C M hp' base he]
 have none0:ce.eff.adds=[]→∀ k o,(k,o)∈ce.eff.adds→YB g o=o:=fun e k o hm=>by rw[e] at hm;simp at hm
 simp only[ZpX,Bool.or_eq_true,Bool.and_eq_true] at hc
 rcases hc with ((hc | hc) | ⟨hc1,hc2⟩) | hc
 ·cases c<;>simp only[Za3,Bool.false_eq_true] at hc<;>simp only[vop] at h ⊢ <;> simp only[ZT] at hs
  case load a s x=>exact⟨Zx2 h (ZyN (hs x (by simp)) (Zcx h) ho hk),none0 (Q6 h)⟩
  case slice s x lo hi=>
   rw[Zht (hs x (by simp))]
   exact⟨h,none0 (Q6 h)⟩
  case slice0 x hi mx=>
   unfold slice0 at h ⊢
   rw[Zfg (hs x (by simp))]
   exact⟨h,none0 (Q6 h)⟩
  case iaS s x i=>
   obtain⟨n,h1,h⟩:=Za h
   rw[h1,Zj]
   unfold ZhB at h ⊢
   rw[ZcW (hs x (by simp))]
   refine⟨h,none0 ?_⟩
   split at h
   ·exact Q6 h
   ·cases h
  case len x=>
   rw[Zfg (hs x (by simp))]
   refine⟨h,none0 ?_⟩
   obtain⟨n,_,h⟩:=Za h;exact Qk h
 ·cases c<;>simp only[ZsT,Bool.false_eq_true] at hc
  simp only[vop] at h ⊢
  obtain⟨h1,h2,h3⟩:=Zjx h hfz hp'
  refine⟨h1,fun k o hm=>?_⟩
  obtain⟨sz,xs,e,f,rfl⟩:=h3 k o hm
  rfl
 ·rw[← Zlq (hp:=hp) hc1]
  exact⟨h,none0 (ZwT hc1 hc2 h)⟩
 ·cases c<;>simp only[ZoX,Bool.false_eq_true] at hc
  simp only[vop] at h ⊢
  exact⟨h,(ZnJ hb hc h hok).2⟩
theorem ZwU {c:COp} (hc:ZlD c=true) (he:∀ x∈ZT c,evO sl' x=evO sl x) (hs:∀ x∈ZT c,Zlp g hp hp' (evO sl x)) {ce:Zf}
  (hn:∀ x∈ZT c,∀ id∈ZJ (evO sl x),id∉g) (hb:∀ k,base≤k→k<base+64→k∉g)
  (h:vop C M sl' hp' base c=some ce) (hok:Q8 base (base+64) ce.eff.adds=true) (hfz:ce.eff.frz=[]) (ho:okV ce.eff.val=true):vop C M sl hp base c=some ce∧kill g ce.eff.val=ce.eff.val∧∀ k o,(k,o)∈ce.eff.adds→YB g o=o:=by
 rw[X4 C M hp' base he] at h
 have none0:ce.eff.adds=[]→∀ k o,(k,o)∈ce.eff.adds→YB g o=o:=fun e k o hm=>by rw[e] at hm;simp at hm
 have names:(∀ id∈ZJ ce.eff.val,id∉g)→kill g ce.eff.val=ce.eff.val:=Zx1 ho
 cases c<;>simp only[ZlD,Bool.false_eq_true] at hc<;>simp only[vop] at h ⊢ <;> simp only[ZT] at hs hn
 case alloc slc cs=>
  obtain⟨h1,h2⟩:=ZnJ hb hc h hok
  exact⟨h,names h1,h2⟩
 case buildSl s xs=>
  obtain⟨h1,h2,h3⟩:=Zjx h hfz hp
  refine⟨h1,names fun id hid=>?_,fun k o hm=>?_⟩
  ·rcases h2 with h2 | h2
   ·rw[h2] at hid;simp[ZJ,ZK,Zq] at hid
   ·rw[h2] at hid;simp[ZJ,ZK,Zq] at hid;subst hid;exact hb _ (Nat.le_refl _) (by omega)
  ·obtain⟨sz,xs,e,f,rfl⟩:=h3 k o hm
   rfl
 case load a s x=>
  obtain⟨h1,h2⟩:=ZyP (hs x (by simp)) (Zcx h) ho
  exact⟨Zx2 h h1,h2,none0 (Q6 h)⟩
 case nilCheck x=>
  have hx:=hn x (by simp)
  refine⟨h,names ?_,none0 ?_⟩
  ·unfold ZaX at h
   split at h<;>rename_i hv<;>first | (cases h;done) | (cases h;show ∀ id∈ZJ _,_;rw[← hv];exact hx)
  ·unfold ZaX at h;split at h<;>first | exact Qk h | cases h
 case bin op eq x y=>
  have hd:∃ d,ce.eff.val=.d d:=by
   have o2:∀ {a b:AV},Ut (vbin op a b)=some ce→∃ d,ce.eff.val=.d d:=fun {a b} h=>by
    have h1:=Zcx h
    unfold vbin at h1
    split at h1
    ·unfold ZaR at h1
     split at h1
     ·obtain⟨y,_,h1⟩:=Za h1;exact⟨_,(Option.some.inj h1).symm⟩
     ·obtain⟨y,_,h1⟩:=Za h1;exact⟨_,(Option.some.inj h1).symm⟩
     ·split at h1
      ·obtain⟨y,_,h1⟩:=Za h1
       have:=Option.some.inj h1
       exact⟨_,this.symm⟩
      ·cases h1
    ·obtain⟨y,_,h1⟩:=Za h1
     have:=Option.some.inj h1
     exact⟨_,this.symm⟩
    ·cases h1
   unfold Zfp at h
   split at h
   ·split at h
    ·have h1:=Zcx h
     unfold Zsm at h1
     split at h1
     ·exact⟨_,(Option.some.inj h1).symm⟩
     ·exact⟨_,(Option.some.inj h1).symm⟩
     ·cases h1
    ·cases h
   ·exact o2 h
  obtain⟨d,hd⟩:=hd
  refine⟨h,by rw[hd];rfl,none0 ?_⟩
  unfold Zfp at h
  split at h
  ·split at h
   ·exact Q6 h
   ·cases h
  ·exact Q6 h
 case un op x=>
  have hd:∃ d,ce.eff.val=.d d:=by
   have h1:=Zcx h
   unfold vun at h1
   split at h1
   ·unfold neg1 at h1
    split at h1
    ·exact⟨_,(Option.some.inj h1).symm⟩
    ·cases h1
   ·unfold not1 at h1
    split at h1
    ·exact⟨_,(Option.some.inj h1).symm⟩
    ·cases h1
   ·cases h1
  obtain⟨d,hd⟩:=hd
  exact⟨h,by rw[hd];rfl,none0 (Q6 h)⟩
 case convI k x=>
  unfold Go.Abs.convI at h ⊢
  split at h
  ·exact⟨h,by cases h;rfl,none0 (Qk h)⟩
  ·cases h
 case shift off x=>
  have hx:=hn x (by simp)
  refine⟨h,names ?_,none0 ?_⟩
  ·unfold WN at h
   split at h<;>rename_i hv<;>first | (cases h;done) | skip
   ·cases h;rw[hv] at hx;simpa [ZJ,ZK,Zq] using hx
   ·cases h;rw[hv] at hx;simpa [ZJ,ZK,Zq] using hx
   ·cases h;simp[ZJ,ZK,Zq]
  ·unfold WN at h;split at h<;>first | exact Qk h | cases h
 case slice s x lo hi=>
  have hx:=hn x (by simp)
  rw[Zht (hs x (by simp))] at h
  refine⟨h,names ?_,none0 (Q6 h)⟩
  have h1:=Zcx h
  cases hv:evO sl x<;>rw[hv] at h1 hx<;>simp only[Us] at h1<;>first | (cases h1;done) | skip
  case d y=>
   cases y<;>simp only[Us] at h1<;>first | (cases h1;done) | skip
   split at h1
   ·obtain⟨b,_,h1⟩:=Za h1;rw[← Option.some.inj h1];simp[ZJ,ZK,Zq]
   ·cases h1
  case nil=>obtain⟨b,_,h1⟩:=Za h1;rw[← Option.some.inj h1];simp[ZJ,ZK,Zq]
  case own id=>
   unfold ZdU at h1
   split at h1
   ·split at h1
    ·unfold Zvu at h1
     split at h1
     ·rw[← Option.some.inj h1];exact hx
     ·obtain⟨b,_,h1⟩:=Za h1;rw[← Option.some.inj h1];simpa [ZJ,ZK,Zq] using hx
    ·cases h1
   ·cases h1
  case ownv id off n=>
   unfold ZbS at h1
   split at h1
   ·split at h1
    ·obtain⟨b,_,h1⟩:=Za h1;rw[← Option.some.inj h1];simpa [ZJ,ZK,Zq] using hx
    ·cases h1
   ·cases h1
 case sliceS x lo hi=>
  have hd:∃ d,ce.eff.val=.d d:=by
   have h1:=Zcx h
   unfold sliceS at h1
   split at h1
   ·obtain⟨b,_,h1⟩:=Za h1;exact⟨_,(Option.some.inj h1).symm⟩
   ·cases h1
  obtain⟨d,hd⟩:=hd
  exact⟨h,by rw[hd];rfl,none0 (Q6 h)⟩
 case lenS x=>
  obtain⟨n,h1,h⟩:=Za h
  refine⟨by rw[h1,Zj];exact h,by cases h;rfl,none0 (Qk h)⟩
 case iaS s x i=>
  have hx:=hn x (by simp)
  obtain⟨n,h1,h⟩:=Za h
  rw[h1,Zj]
  unfold ZhB at h ⊢
  rw[ZcW (hs x (by simp))] at h
  refine⟨h,names ?_,none0 ?_⟩
  ·split at h
   ·have h1:=Zcx h
    cases hv:evO sl x<;>rw[hv] at h1 hx<;>simp only[QQ] at h1<;>first | (cases h1;done) | skip
    case d y=>
     cases y<;>simp only[QQ] at h1<;>first | (cases h1;done) | skip
     obtain⟨b,_,h1⟩:=Za h1
     unfold Zya at h1
     split at h1
     ·rw[← Option.some.inj h1];simp[ZJ,ZK,Zq]
     ·cases h1
    case own id=>
     unfold Zeu at h1
     split at h1
     ·split at h1
      ·rw[← Option.some.inj h1];simpa [ZJ,ZK,Zq] using hx
      ·cases h1
     ·split at h1
      ·rw[← Option.some.inj h1];simpa [ZJ,ZK,Zq] using hx
      ·cases h1
     ·cases h1
    case ownv id off n=>
     unfold ZdT at h1
     split at h1
     ·split at h1
      ·rw[← Option.some.inj h1];simpa [ZJ,ZK,Zq] using hx
      ·cases h1
     ·cases h1
   ·cases h
  ·split at h
   ·exact Q6 h
   ·cases h
 case len x=>
  rw[Zfg (hs x (by simp))] at h
  obtain⟨n,h1,h2⟩:=Za h
  exact⟨h,by cases h2;rfl,none0 (Qk h2)⟩
end
end Go.Abs
