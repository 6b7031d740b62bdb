/- The abstract semantics: calls in regions that draw. Own text. -/
import Derived.Test.YtkdjbefmiiibpaaGreatDoorAbsDraw3
import Derived.Test.YtkdjbefmiiibpaaGreatDoorAbsSound5
set_option linter.unusedVariables false
set_option linter.unusedSimpArgs false
namespace Go.Abs
open Go
theorem ZxS {v:AV} (h:okC v=true):okV v=true:=by
 cases v<;>first | exact h | cases h
theorem Zmv {g:List Nat} {v:AV} (h:okC (Qr g v)=true):Qr g v=v:=by
 cases v<;>simp only[Qr] at h ⊢ <;> first | rfl | (split at h<;>rename_i h' <;> first | (cases h;done) | rw[if_neg h'])
theorem Zkx {g:List Nat}:∀ {cs:List AV},Ztm (cs.map (Qr g))=true→cs.map (Qr g)=cs
 | [],_=>rfl
 | c :: cs,h=>by
  simp only[List.map_cons,Ztm,Bool.and_eq_true] at h ⊢
  rw[Zmv h.1,Zkx h.2]
theorem Zgr {g:List Nat} {v:AV} (h:okV (Z6 g v)=true):Z6 g v=v:=by
 cases v with
 | agg cs=>simp only[Z6,okV] at h ⊢;rw[Zkx h]
 | clo f cs=>simp only[Z6,okV,okC] at h;cases h
 | tup vs=>rfl
 | _=>
  simp only[Z6] at h ⊢
  refine Zmv ?_
  revert h
  simp only[Qr]
  first | exact id | (split<;>first | exact id | (intro h;cases h))
theorem ZdV {g:List Nat} {v:AV} (h:okV (kill g v)=true):kill g v=v:=by
 cases v with
 | tup vs=>
  cases vs with
  | nil=>rfl
  | cons x r=>simp only[kill,List.map_cons,okV,okC] at h;cases h
 | _=>simp only[kill] at h ⊢;exact Zgr h
theorem Zuy {g:List Nat} {v:AV} (hn:∀ id∈Zp v,id∉g):Qr g v=v:=by
 cases v<;>simp only[Qr]<;>first | rfl | (rw[if_neg];simpa [Zp] using hn)
theorem ZxT {g:List Nat} {v:AV} (h:okV v=true) (hn:∀ id∈ZI v,id∉g):kill g v=v:=by
 cases v with
 | tup vs=>
  cases vs with
  | nil=>rfl
  | cons x r=>simp only[okV,okC] at h;cases h
 | clo f cs=>simp only[okV,okC] at h;cases h
 | agg cs=>
  simp only[kill,Z6]
  congr 1
  rw[List.map_congr_left (g:=id),List.map_id]
  intro c hc
  exact Zuy fun id hid=>hn id (by simp only[ZI,ZJ,List.mem_flatMap];exact⟨c,hc,hid⟩)
 | _=>simp only[kill,Z6];exact Zuy hn
theorem ZAI {g:List Nat} {v:AV} (h:kill g v=v):∀ id∈ZI v,id∉g:=fun id hid=>(Zmr g v id (by rw[h];exact hid)).2
theorem Zy2 {g:List Nat} {c:AV} (h:okC c=true) (h1:Qr g c=c):Z6 g c=c:=by
 cases c<;>simp only[Z6]<;>first | exact h1 | cases h
def ZdW (g:List Nat):Option Zo→Option Zo→Prop
 | none,none=>True
 | some (.row s xs _ _),some (.row s' xs' _ _)=>s'=s∧xs'=xs
 | some (.box cs),some (.box cs')=>cs'=cs.map (Z6 g)
 | some (.deep s n xs l),some (.deep s' n' xs' l')=>s'=s∧n'=n∧xs'=xs∧l'=Zin g l
 | _,_=>False
theorem Zuz {g:List Nat} {b:Bool} (o:Option Zo):ZdW g o ((o.map (YN g)).map fun o=>if b then WK o else o):=by
 cases o with
 | none=>trivial
 | some o=>cases o<;>cases b<;>exact(by first | exact⟨rfl,rfl⟩ | exact rfl | exact⟨rfl,rfl,rfl,rfl⟩)
theorem ZrR {g:List Nat}:∀ {l:List AV} {ds:List D},Zg5 l=some ds→l.map (Z6 g)=l
 | [],ds,_=>rfl
 | v :: l,ds,h=>by
  simp only[Zg5] at h
  obtain⟨x,h1,h⟩:=Za h
  obtain⟨ds',h2,h⟩:=Za h
  have:Z6 g v=v:=by cases v<;>first | rfl | cases h1
  rw[List.map_cons,this,ZrR h2]
theorem Zo5 {g:List Nat}:∀ {l:List AV} {ds:List D},Zg5 (l.map (Z6 g))=some ds→l.map (Z6 g)=l
 | [],ds,_=>rfl
 | v :: l,ds,h=>by
  simp only[List.map_cons,Zg5] at h
  obtain⟨x,h1,h⟩:=Za h
  obtain⟨ds',h2,h⟩:=Za h
  have hv:Z6 g v=v:=by
   refine Zgr ?_
   cases hk:Z6 g v<;>rw[hk] at h1<;>first | rfl | cases h1
  rw[List.map_cons,hv,Zo5 h2]
theorem Zit (l:List AV):(∃ ds,Zg5 l=some ds∧ZaT l=.d (.agg ds))∨(Zg5 l=none∧(ZaT l=.junk∨ZaT l=.agg l)):=by
 unfold ZaT
 cases h:Zg5 l with
 | some ds=>exact .inl ⟨ds,rfl,rfl⟩
 | none=>
  refine .inr ⟨rfl,?_⟩
  unfold Zac
  split
  ·rename_i h;cases h
  ·split
   ·exact .inl rfl
   ·exact .inr rfl
theorem Zll:∀ {l:List AV},Ztm l=true→∀ c∈l,okC c=true
 | [],_,c,hc=>by simp at hc
 | x :: l,h,c,hc=>by
  simp only[Ztm,Bool.and_eq_true] at h
  rcases List.mem_cons.1 hc with rfl | hc
  ·exact h.1
  ·exact Zll h.2 c hc
theorem Zy3 {g:List Nat} {l:List AV} (h:okV (ZaT l)=true) (hk:kill g (ZaT l)=ZaT l):l.map (Z6 g)=l:=by
 rcases Zit l with ⟨ds,h1,h2⟩ | ⟨h1,h2 | h2⟩
 ·exact ZrR h1
 ·rw[h2] at h;cases h
 ·rw[h2] at h hk
  simp only[kill,Z6,AV.agg.injEq] at hk
  simp only[okV] at h
  have hm:=Zll h
  have hk' : ∀ c∈l,Qr g c=c:=by
   intro c hc
   have:=Zkx (g:=g) (cs:=l) (by rw[hk];exact h)
   exact Zmv (by
    have h3:Qr g c∈l.map (Qr g):=List.mem_map_of_mem hc
    rw[hk] at h3
    exact hm _ h3)
  rw[List.map_congr_left (g:=id),List.map_id]
  intro c hc
  exact Zy2 (hm c hc) (hk' c hc)
theorem Zy4 {g:List Nat} {l:List AV} (h:okV (ZaT (l.map (Z6 g)))=true):l.map (Z6 g)=l:=by
 rcases Zit (l.map (Z6 g)) with ⟨ds,h1,h2⟩ | ⟨h1,h2 | h2⟩
 ·exact Zo5 h1
 ·rw[h2] at h;cases h
 ·rw[h2] at h
  simp only[okV] at h
  have hm:=Zll h
  rw[List.map_congr_left (g:=id),List.map_id]
  intro c hc
  exact Zgr (ZxS (hm _ (List.mem_map_of_mem hc)))
theorem Zwq {g:List Nat} {v:AV} (h:okV v=true) (hk:kill g v=v):Z6 g v=v:=by
 cases v with
 | tup vs=>rfl
 | _=>simp only[kill] at hk;exact hk
theorem Zwr {g:List Nat} {v:AV} (h:okV v=true) (hk:Z6 g v=v):kill g v=v:=by
 cases v with
 | tup vs=>
  cases vs with
  | nil=>rfl
  | cons x r=>simp only[okV,okC] at h;cases h
 | _=>simp only[kill];exact hk
theorem Zj9 {α β:Type} (f:α→β) (l:List α) (a b:Nat):((l.map f).drop a).take b=((l.drop a).take b).map f:=by
 rw[← List.map_drop,← List.map_take]
theorem Zns (g:List Nat) (c:AV):Zlr (Z6 g c)=Z6 g (Zlr c):=by
 have key:∀ v:AV,(∀ a b,v≠.bbuf a b)→Zlr v=v:=fun v h'=>by cases v<;>first | rfl | exact absurd rfl (h' _ _)
 by_cases h' : ∃ a b,c=.bbuf a b
 ·obtain⟨a,b,rfl⟩:=h';rfl
 ·have h2:∀ a b,c≠.bbuf a b:=fun a b e=>h' ⟨a,b,e⟩
  rw[key c h2,key]
  exact fun a b e=>h2 a b ((Zat g c a b).1 e)
theorem ZuA {g:List Nat} {cs:List AV} {a:Bool} {s off:Nat} {v:AV} (h:Zck a s off (some (.box cs))=some v) (ho:okV v=true) (hk:kill g v=v):Zck a s off (some (.box (cs.map (Z6 g))))=some v:=by
 unfold Zck at h ⊢
 cases a with
 | true=>
  simp only[if_true] at h ⊢
  split at h
  ·rename_i hl
   cases h
   rw[if_pos (by simpa using hl),Zj9,Zy3 ho hk]
  ·cases h
 | false=>
  simp only[Bool.false_eq_true,if_false] at h ⊢
  obtain⟨c,hc,rfl⟩:=Option.map_eq_some_iff.1 h
  rw[List.getElem?_map,hc]
  simp only[Option.map_some]
  rw[Zns,Zwq ho hk]
theorem ZuB {g:List Nat} {cs:List AV} {a:Bool} {s off:Nat} {v:AV} (h:Zck a s off (some (.box (cs.map (Z6 g))))=some v) (ho:okV v=true):Zck a s off (some (.box cs))=some v∧kill g v=v:=by
 unfold Zck at h ⊢
 cases a with
 | true=>
  simp only[if_true] at h ⊢
  split at h
  ·rename_i hl
   cases h
   rw[Zj9] at ho ⊢
   have he:=Zy4 ho
   rw[he] at ho ⊢
   refine⟨by rw[if_pos (by simpa using hl)],?_⟩
   rcases Zit ((cs.drop off).take s) with ⟨ds,h1,h2⟩ | ⟨h1,h2 | h2⟩
   ·rw[h2];rfl
   ·rw[h2] at ho;cases ho
   ·rw[h2] at ho ⊢
    simp only[okV] at ho
    have hm:=Zll ho
    simp only[kill,Z6,AV.agg.injEq]
    rw[List.map_congr_left (g:=id),List.map_id]
    intro c hc
    have h3:Z6 g c=c:=by
     refine Zgr ?_
     have h4:Z6 g c∈((cs.drop off).take s).map (Z6 g):=List.mem_map_of_mem hc
     rw[he] at h4
     exact ZxS (hm _ h4)
    have:=hm c hc
    cases c<;>first | exact h3 | cases this
  ·cases h
 | false=>
  simp only[Bool.false_eq_true,if_false] at h ⊢
  rw[List.getElem?_map] at h
  cases hc:cs[off]? with
  | none=>rw[hc] at h;cases h
  | some c=>
   rw[hc] at h
   simp only[Option.map_some,Option.some.injEq] at h
   rw[Zns] at h
   have h3:Z6 g (Zlr c)=Zlr c:=Zgr (by rw[h];exact ho)
   rw[h3] at h
   subst h
   exact⟨rfl,Zwr ho h3⟩
theorem Zws {g:List Nat} {o o' : Option Zo} (h:ZdW g o o'):ZaU o'=ZaU o:=by
 cases o with
 | none=>cases o' with
  | none=>rfl
  | some o'=>cases h
 | some o=>cases o' with
  | none=>cases o<;>cases h
  | some o'=>cases o<;>cases o' <;> simp only[ZdW] at h<;>first | (cases h;done) | rfl | (obtain⟨rfl,rfl⟩:=h;rfl) | (obtain⟨_,_,rfl,_⟩:=h;rfl)
theorem ZdX {g:List Nat} {o o' : Option Zo} (h:ZdW g o o'):(∃ s xs e f e' f',o=some (.row s xs e f)∧o'=some (.row s xs e' f'))∨(o=none∧o'=none)∨(∃ cs,o=some (.box cs)∧o'=some (.box (cs.map (Z6 g))))∨(∃ s n xs l,o=some (.deep s n xs l)∧o'=some (.deep s n xs (Zin g l))):=by
 cases o with
 | none=>cases o' with
  | none=>exact .inr (.inl ⟨rfl,rfl⟩)
  | some o'=>cases h
 | some o=>cases o' with
  | none=>cases o<;>cases h
  | some o' =>
   cases o with
   | box cs=>cases o' with
    | box cs'=>simp only[ZdW] at h;subst h;exact .inr (.inr (.inl ⟨cs,rfl,rfl⟩))
    | row _ _ _ _=>cases h
    | deep _ _ _ _=>cases h
   | row s xs e f=>cases o' with
    | box cs'=>cases h
    | row s' xs' e' f'=>simp only[ZdW] at h;obtain⟨rfl,rfl⟩:=h;exact .inl ⟨_,_,_,_,_,_,rfl,rfl⟩
    | deep _ _ _ _=>cases h
   | deep s n xs l=>cases o' with
    | box cs'=>cases h
    | row _ _ _ _=>cases h
    | deep s' n' xs' l'=>simp only[ZdW] at h;obtain⟨rfl,rfl,rfl,rfl⟩:=h;exact .inr (.inr (.inr ⟨_,_,_,_,rfl,rfl⟩))
section
variable {g:List Nat} {o o' : Option Zo}
theorem Zs3 (h:ZdW g o o') (sz id n:Nat):Zfd sz id n o'=Zfd sz id n o:=by
 rcases ZdX h with ⟨s,xs,e,f,e',f',rfl,rfl⟩ | ⟨rfl,rfl⟩ | ⟨cs,rfl,rfl⟩ | ⟨s,n,xs,l,rfl,rfl⟩<;>rfl
theorem ZqQ (h:ZdW g o o') (sz id off m n:Nat):Zd1 sz id off m n o'=Zd1 sz id off m n o:=by
 rcases ZdX h with ⟨s,xs,e,f,e',f',rfl,rfl⟩ | ⟨rfl,rfl⟩ | ⟨cs,rfl,rfl⟩ | ⟨s,n,xs,l,rfl,rfl⟩<;>rfl
theorem ZqR (h:ZdW g o o') (s id:Nat) (lo hi:Option AV):Zd2 s id lo hi o'=Zd2 s id lo hi o:=by
 rcases ZdX h with ⟨s,xs,e,f,e',f',rfl,rfl⟩ | ⟨rfl,rfl⟩ | ⟨cs,rfl,rfl⟩ | ⟨s,n,xs,l,rfl,rfl⟩<;>rfl
theorem Zo6 (h:ZdW g o o') (s id off n:Nat) (lo hi:Option AV):ZbJ s id off n lo hi o'=ZbJ s id off n lo hi o:=by
 rcases ZdX h with ⟨s,xs,e,f,e',f',rfl,rfl⟩ | ⟨rfl,rfl⟩ | ⟨cs,rfl,rfl⟩ | ⟨s,n,xs,l,rfl,rfl⟩<;>rfl
theorem Znt {id i off:Nat} {l l' : Option (Nat×Nat×Nat)} {x:D} {v:AV} (h:Zgw id i off l x=some v) (ho:okV v=true):Zgw id i off l' x=some v∧∃ d,v=.d d:=by
 unfold Zgw at h ⊢
 split at h
 ·unfold ZuM at h
  split at h
  ·split at h
   ·cases h;cases ho
   ·cases h
  ·cases h
 ·split at h
  ·rename_i hp;cases h;exact⟨by rw[if_pos hp],_,rfl⟩
  ·cases h
 ·cases h
theorem Zlm {id:Nat} (h:ZdW g o o') {a:Bool} {s sz i off:Nat} {v:AV} (ho:okV v=true):Zcl id a s sz i off o'=some v↔Zcl id a s sz i off o=some v:=by
 rcases ZdX h with ⟨s,xs,e,f,e',f',rfl,rfl⟩ | ⟨rfl,rfl⟩ | ⟨cs,rfl,rfl⟩ | ⟨s,n,xs,l,rfl,rfl⟩
 ·exact Iff.rfl
 ·exact Iff.rfl
 ·exact Iff.rfl
 ·simp only[Zcl]
  split
  ·split
   ·exact Iff.rfl
   ·constructor<;>intro hh<;>obtain⟨x,h1,hh⟩:=Za hh<;>rw[h1,Zf]<;>exact(Znt hh ho).1
  ·exact Iff.rfl
end
section
variable {hp hp' : Hp} {g:List Nat}
def Zln (g:List Nat) (hp hp' : Hp) (v:AV):Prop:=∀ k∈ZI v,ZdW g (lkp hp k) (lkp hp' k)
theorem Zgs {v:AV} (h:Zln g hp hp' v):Zfv hp' v=Zfv hp v:=by
 cases v<;>simp only[Zfv]
 case d x=>cases x<;>rfl
 case own id=>rw[Zws (h id (by simp[ZI,ZJ,Zp]))]
theorem ZcM {v:AV} (h:Zln g hp hp' v) (sz n:Nat):QW hp' sz n v=QW hp sz n v:=by
 cases v<;>simp only[QW]
 case d x=>cases x<;>rfl
 case own id=>rw[Zs3 (h id (by simp[ZI,ZJ,Zp]))]
 case ownv id off n=>rw[ZqQ (h id (by simp[ZI,ZJ,Zp]))]
theorem Ziu {v:AV} (h:Zln g hp hp' v) (s:Nat) (lo hi:Option AV):Ux hp' s lo hi v=Ux hp s lo hi v:=by
 cases v<;>simp only[Ux]
 case d x=>cases x<;>rfl
 case own id=>rw[ZqR (h id (by simp[ZI,ZJ,Zp]))]
 case ownv id off n=>rw[Zo6 (h id (by simp[ZI,ZJ,Zp]))]
theorem Zy5 {x v:AV} (hs:Zln g hp hp' x) {a:Bool} {s:Nat} (h:JU hp a s x=some v) (ho:okV v=true) (hk:kill g v=v):JU hp' a s x=some v:=by
 cases x<;>simp only[JU] at h ⊢ <;> first | (cases h;done) | skip
 case ptr id off=>
  rcases ZdX (hs id (by simp[ZI,ZJ,Zp])) with ⟨_,_,_,_,_,_,e1,e2⟩ | ⟨e1,e2⟩ | ⟨cs,e1,e2⟩ | ⟨_,_,_,_,e1,e2⟩
  ·rw[e1] at h;cases h
  ·rw[e1] at h;cases h
  ·rw[e1] at h;rw[e2];exact ZuA h ho hk
  ·rw[e1] at h;cases h
 case prow id sz i off=>exact(Zlm (hs id (by simp[ZI,ZJ,Zp])) ho).2 h
 case pim cs=>exact h
theorem Zy6 {id:Nat} {a:Bool} {s sz i off:Nat} {o:Option Zo} {v:AV} (h:Zcl id a s sz i off o=some v) (ho:okV v=true):∃ d,v=.d d:=by
 unfold Zcl at h
 split at h
 ·split at h
  ·obtain⟨x,_,h⟩:=Za h
   unfold Zls at h
   split at h
   ·unfold Zfy at h
    split at h
    ·split at h
     ·cases h;exact⟨_,rfl⟩
     ·cases h
    ·unfold asD at h
     obtain⟨y,_,h⟩:=Za h
     cases h;exact⟨_,rfl⟩
   ·cases h
  ·cases h
 ·split at h
  ·split at h
   ·cases h
   ·obtain⟨x,_,h⟩:=Za h
    exact(Znt (l':=none) h ho).2
  ·cases h
 ·cases h
theorem ZAJ {a:Bool} {s off:Nat} {cs:List D} {v:AV} (h:Zfy a s off cs=some v):∃ d,v=.d d:=by
 unfold Zfy at h
 split at h
 ·split at h
  ·cases h;exact⟨_,rfl⟩
  ·cases h
 ·unfold asD at h
  obtain⟨y,_,h⟩:=Za h
  cases h;exact⟨_,rfl⟩
theorem Zy7 {x v:AV} (hs:Zln g hp hp' x) {a:Bool} {s:Nat} (h:JU hp' a s x=some v) (ho:okV v=true):JU hp a s x=some v∧kill g v=v:=by
 cases x<;>simp only[JU] at h ⊢ <;> first | (cases h;done) | skip
 case ptr id off=>
  rcases ZdX (hs id (by simp[ZI,ZJ,Zp])) with ⟨_,_,_,_,_,_,e1,e2⟩ | ⟨e1,e2⟩ | ⟨cs,e1,e2⟩ | ⟨_,_,_,_,e1,e2⟩
  ·rw[e2] at h;cases h
  ·rw[e2] at h;cases h
  ·rw[e2] at h;rw[e1];exact ZuB h ho
  ·rw[e2] at h;cases h
 case prow id sz i off=>
  have h:=(Zlm (hs id (by simp[ZI,ZJ,Zp])) ho).1 h
  obtain⟨d,rfl⟩:=Zy6 h ho
  exact⟨h,rfl⟩
 case pim cs=>
  obtain⟨d,rfl⟩:=ZAJ h
  exact⟨h,rfl⟩
theorem Znu {x:AV} {d:D} {e:Bool} (h:Zdl hp x=some (d,e,[])) (hp' : Hp):Zdl hp' x=some (d,e,[]):=by
 cases x<;>simp only[Zdl] at h ⊢ <;> first | exact h | skip
 case own id=>obtain⟨q,_,h⟩:=Za h;simp at h
theorem Znv:∀ {xs:List AV} {d:List D} {e:Bool},Uy hp xs=some (d,e,[])→∀ hp' : Hp,Uy hp' xs=some (d,e,[])
 | [],d,e,h,hp'=>h
 | x :: xs,d,e,h,hp'=>by
  simp only[Uy] at h ⊢
  obtain⟨⟨d1,e1,l1⟩,h1,h⟩:=Za h
  obtain⟨⟨d2,e2,l2⟩,h2,h⟩:=Za h
  have hl:l1=[]∧l2=[]:=by
   simp only at h
   split at h
   ·simp only[Option.some.injEq,Prod.mk.injEq,List.append_eq_nil_iff] at h;exact h.2.2
   ·cases h
  obtain⟨rfl,rfl⟩:=hl
  rw[Znu h1 hp',Zf,Znv h2 hp',Zf]
  exact h
theorem Zwt {x:AV} {d:D} {e:Bool} (h:give hp x=some (d,e,[])) (hp' : Hp):give hp' x=some (d,e,[]):=by
 cases x<;>simp only[give] at h ⊢ <;> first | exact Znu h hp' | skip
 case agg cs=>
  obtain⟨⟨d1,e1,l1⟩,h1,h⟩:=Za h
  simp only[Option.some.injEq,Prod.mk.injEq] at h
  obtain⟨rfl,rfl,rfl⟩:=h
  rw[Znv h1 hp',Zf]
theorem Zka:∀ {xs:List AV} {d:List D} {e:Bool},Jb hp xs=some (d,e,[])→∀ hp' : Hp,Jb hp' xs=some (d,e,[])
 | [],d,e,h,hp'=>h
 | x :: xs,d,e,h,hp'=>by
  simp only[Jb] at h ⊢
  obtain⟨⟨d1,e1,l1⟩,h1,h⟩:=Za h
  obtain⟨⟨d2,e2,l2⟩,h2,h⟩:=Za h
  have hl:l1=[]∧l2=[]:=by
   simp only at h
   split at h
   ·simp only[Option.some.injEq,Prod.mk.injEq,List.append_eq_nil_iff] at h;exact h.2.2
   ·cases h
  obtain⟨rfl,rfl⟩:=hl
  rw[Zwt h1 hp',Zf,Zka h2 hp',Zf]
  exact h
theorem Zkb {base s:Nat} {vs:List AV} {ce:Zc} (h:buildSl hp base s vs=some ce) (hf:ce.eff.frz=[]) (hp' : Hp) :
  buildSl hp' base s vs=some ce∧(ce.eff.val=.nil∨ce.eff.val=.own base)∧(∀ k o,(k,o)∈ce.eff.adds→∃ sz xs e f,o=.row sz xs e f):=by
 cases vs with
 | nil=>simp only[buildSl,QT] at h ⊢;cases h;exact⟨rfl,.inl rfl,fun k o h=>by simp at h⟩
 | cons v vs=>
  simp only[buildSl] at h ⊢
  obtain⟨⟨ds,e,l⟩,h1,h⟩:=Za h
  unfold ZwA at h
  split at h
  ·rename_i hc
   cases h
   simp only at hf
   subst hf
   rw[Zka h1 hp',Zf]
   refine⟨?_,.inr rfl,fun k o ho=>?_⟩
   ·unfold ZwA;rw[if_pos hc]
   ·simp at ho;obtain⟨rfl,rfl⟩:=ho;exact⟨_,_,_,_,rfl⟩
  ·cases h
end
theorem Zlo {C:Orc} {M:Zt} {sl:Sl} {hp hp' : Hp} {base:Nat} {c:COp} (hc:UM c=true):vop C M sl hp base c=vop C M sl hp' base c:=by
 cases c<;>first | rfl | (simp[UM] at hc)
section
variable {C:Orc} {M:Zt} {sl sl' : Sl} {hp hp' : Hp} {base:Nat} {g:List Nat}
theorem Qt {v:AV} {ce:Zc} (h:QT v=some ce):ce.eff.adds=[]:=by cases h;rfl
theorem Xk {v:Option AV} {ce:Zc} (h:WL v=some ce):ce.eff.adds=[]:=by obtain⟨v,_,h⟩:=Za h;exact Qt h
theorem Zcs {v:Option AV} {ce:Zc} (h:WL v=some ce):v=some ce.eff.val:=by obtain⟨v,rfl,h⟩:=Za h;cases h;rfl
theorem ZxU {v:Option AV} {ce:Zc} {w:Option AV} (h:WL v=some ce) (hw:w=some ce.eff.val):WL w=some ce:=by
 obtain⟨v,rfl,h⟩:=Za h;cases h;rw[hw];rfl
theorem Zwu {c:COp} (hc:UM c=true) (hv:ZwP c=true) {ce:Zc} (h:vop C M sl hp base c=some ce):ce.eff.adds=[]:=by
 cases c<;>simp only[UM,ZwP,Bool.false_eq_true] at hc hv<;>simp only[vop] at h
 case stuck=>cases h
 case move x=>exact Qt h
 case pick c a b=>
  unfold Zh6 at h
  split at h
  ·split at h<;>exact Qt h
  ·cases h
 case build zs ps=>obtain⟨cs,_,h⟩:=Za h;exact Qt h
 case nilCheck x=>unfold Za1 at h;split at h<;>first | exact Qt h | cases h
 case bin op eq x y=>
  unfold ZiC at h
  split at h
  ·split at h
   ·exact Xk h
   ·cases h
  ·exact Xk h
 case un op x=>exact Xk h
 case eqA neg n x y=>
  unfold ZqU at h
  split at h
  ·obtain⟨r,_,h⟩:=Za h;exact Qt h
  ·cases h
 case convI k x=>unfold Go.Abs.convI at h;split at h<;>first | exact Qt h | cases h
 case convS x=>unfold Go.Abs.convS at h;split at h<;>first | exact Qt h | cases h
 case sliceS x lo hi=>exact Xk h
 case shift off x=>unfold WM at h;split at h<;>first | exact Qt h | cases h
 case part g s off x=>exact Xk h
 case iaA len s x i=>
  obtain⟨n,_,h⟩:=Za h
  unfold ZnB at h
  split at h
  ·unfold WM at h;split at h<;>first | exact Qt h | cases h
  ·cases h
 case ixS x i=>
  obtain⟨n,_,h⟩:=Za h
  unfold ZuP at h
  split at h
  ·unfold Zr6 at h
   split at h
   ·obtain⟨b,_,h⟩:=Za h;exact Qt h
   ·cases h
  ·cases h
 case ixA g s len x i=>
  obtain⟨n,_,h⟩:=Za h
  unfold ZwB at h
  split at h
  ·exact Xk h
  ·cases h
 case nth i x=>unfold Zta at h;split at h<;>first | exact Xk h | cases h
 case lenS x=>obtain⟨n,_,h⟩:=Za h;exact Qt h
 case min x y=>unfold Zlw at h;split at h<;>first | (split at h<;>first | exact Qt h | cases h) | cases h
 case max x y=>unfold Zlx at h;split at h<;>first | (split at h<;>first | exact Qt h | cases h) | cases h
theorem Znw {c:AV} (h:ZfE c=true):Z6 g c=c:=by cases c<;>first | rfl | cases h
theorem Zhi:∀ {cs:List AV},W3 cs=true→∀ c∈cs,ZfE c=true
 | [],_,c,hc=>by simp at hc
 | x :: l,h,c,hc=>by
  simp only[W3,Bool.and_eq_true] at h
  rcases List.mem_cons.1 hc with rfl | hc
  ·exact h.1
  ·exact Zhi h.2 c hc
theorem Zmw:∀ (slc:List (Option Nat)) (cs:List AV) (b:Nat),(∀ c∈(mat slc cs b).1,c∈cs∨∃ k o,c=.own k∧(k,o)∈(mat slc cs b).2)∧∀ k o,(k,o)∈(mat slc cs b).2→∃ sz,o=.row sz [] true false
 | [],cs,b=>by simp only[mat];exact⟨fun c hc=>.inl hc,fun k o h=>by simp at h⟩
 | t :: ts,[],b=>by cases t<;>(simp only[mat];exact⟨fun c hc=>.inl hc,fun k o h=>by simp at h⟩)
 | t :: ts,v :: vs,b=>by
  by_cases hv:(∃ sz,t=some sz)∧v=.nil
  ·obtain⟨⟨sz,rfl⟩,rfl⟩:=hv
   obtain⟨h1,h2⟩:=Zmw ts vs (b+1)
   simp only[mat]
   refine⟨fun c hc=>?_,fun k o h=>?_⟩
   ·rcases List.mem_cons.1 hc with rfl | hc
    ·exact .inr ⟨b,_,rfl,List.mem_cons_self ..⟩
    ·rcases h1 c hc with h | ⟨k,o,e,h⟩
     ·exact .inl (List.mem_cons_of_mem _ h)
     ·exact .inr ⟨k,o,e,List.mem_cons_of_mem _ h⟩
   ·rcases List.mem_cons.1 h with h | h
    ·cases h;exact⟨_,rfl⟩
    ·exact h2 k o h
  ·obtain⟨h1,h2⟩:=Zmw ts vs b
   have e:mat (t :: ts) (v :: vs) b=(v :: (mat ts vs b).1,(mat ts vs b).2):=by
    cases t with
    | none=>simp[mat]
    | some sz=>cases v<;>first | (exact absurd ⟨⟨sz,rfl⟩,rfl⟩ hv) | simp[mat]
   rw[e]
   refine⟨fun c hc=>?_,h2⟩
   rcases List.mem_cons.1 hc with rfl | hc
   ·exact .inl (List.mem_cons_self ..)
   ·rcases h1 c hc with h | h
    ·exact .inl (List.mem_cons_of_mem _ h)
    ·exact .inr h
theorem ZrS {base:Nat}:∀ {cs:List AV},W3 cs=true→cs.map (ZkB base)=cs
 | [],_=>rfl
 | c :: cs,h=>by
  simp only[W3,Bool.and_eq_true] at h
  rw[List.map_cons,ZrS h.2]
  congr 1
  cases c<;>first | rfl | (simp[ZfE] at h)
theorem ZrT:∀ {cs:List AV},W3 cs=true→YM cs=true
 | [],_=>rfl
 | c :: cs,h=>by
  simp only[W3,Bool.and_eq_true] at h
  have:=ZrT h.2
  cases c<;>first | exact this | (simp[ZfE] at h)
theorem Znx {slc:List (Option Nat)} {cs:List AV} {ce:Zc} (hb:∀ k,base≤k→k<base+64→k∉g) (hc:W3 cs=true) (h:Zhl slc base cs=some ce) (hok:Xl base (base+64) ce.eff.adds=true) :
  (∀ id∈ZI ce.eff.val,id∉g)∧∀ k o,(k,o)∈ce.eff.adds→YN g o=o:=by
 have hr:=Jf hok
 unfold Zhl at h
 rw[ZrS hc] at h
 unfold ZmD at h
 rw[if_neg (by rw[ZrT hc];decide)] at h
 split at h
 ·cases h
  simp only at hr ⊢
  obtain⟨h1,h2⟩:=Zmw slc cs (base+1)
  refine⟨fun id hid=>?_,fun k o hm=>?_⟩
  ·simp[ZI,ZJ,Zp] at hid;subst hid;exact hb _ (Nat.le_refl _) (by omega)
  ·rcases List.mem_cons.1 hm with hm | hm
   ·cases hm
    simp only[YN]
    congr 1
    rw[List.map_congr_left (g:=id),List.map_id]
    intro c hcm
    rcases h1 c hcm with h | ⟨k,o,rfl,h⟩
    ·exact Znw (Zhi hc c h)
    ·have:=hr k o (List.mem_cons_of_mem _ h)
     have hk:=hb k this.1 this.2
     simp[Z6,Qr,hk]
   ·obtain⟨sz,rfl⟩:=h2 k o hm;rfl
 ·cases h
  simp only at hr ⊢
  refine⟨fun id hid=>?_,fun k o hm=>?_⟩
  ·simp[ZI,ZJ,Zp] at hid;subst hid;exact hb _ (Nat.le_refl _) (by omega)
  ·simp at hm
   obtain⟨rfl,rfl⟩:=hm
   simp only[YN]
   congr 1
   rw[List.map_congr_left (g:=id),List.map_id]
   exact fun c hcm=>Znw (Zhi hc c hcm)
theorem Zy8 {c:COp} (hc:ZpB c=true) (he:∀ x∈ZT c,evO sl' x=evO sl x) (hs:∀ x∈ZT c,Zln g hp hp' (evO sl x)) {ce:Zc}
  (hb:∀ k,base≤k→k<base+64→k∉g) (h:vop C M sl hp base c=some ce) (hok:Xl base (base+64) ce.eff.adds=true) (hfz:ce.eff.frz=[]) (ho:okV ce.eff.val=true) (hk:kill g ce.eff.val=ce.eff.val):vop C M sl' hp' base c=some ce∧∀ k o,(k,o)∈ce.eff.adds→YN g o=o:=by
 rw[X7 C M hp' base he]
 have none0:ce.eff.adds=[]→∀ k o,(k,o)∈ce.eff.adds→YN g o=o:=fun e k o hm=>by rw[e] at hm;simp at hm
 simp only[ZpB,Bool.or_eq_true,Bool.and_eq_true] at hc
 rcases hc with ((hc | hc) | ⟨hc1,hc2⟩) | hc
 ·cases c<;>simp only[Za4,Bool.false_eq_true] at hc<;>simp only[vop] at h ⊢ <;> simp only[ZT] at hs
  case load a s x=>exact⟨ZxU h (Zy5 (hs x (by simp)) (Zcs h) ho hk),none0 (Xk h)⟩
  case slice s x lo hi=>
   rw[Ziu (hs x (by simp))]
   exact⟨h,none0 (Xk h)⟩
  case slice0 x hi mx=>
   unfold slice0 at h ⊢
   rw[Zgs (hs x (by simp))]
   exact⟨h,none0 (Xk h)⟩
  case iaS s x i=>
   obtain⟨n,h1,h⟩:=Za h
   rw[h1,Zf]
   unfold ZiD at h ⊢
   rw[ZcM (hs x (by simp))]
   refine⟨h,none0 ?_⟩
   split at h
   ·exact Xk h
   ·cases h
  case len x=>
   rw[Zgs (hs x (by simp))]
   refine⟨h,none0 ?_⟩
   obtain⟨n,_,h⟩:=Za h;exact Qt h
 ·cases c<;>simp only[Zsa,Bool.false_eq_true] at hc
  simp only[vop] at h ⊢
  obtain⟨h1,h2,h3⟩:=Zkb h hfz hp'
  refine⟨h1,fun k o hm=>?_⟩
  obtain⟨sz,xs,e,f,rfl⟩:=h3 k o hm
  rfl
 ·rw[← Zlo (hp:=hp) hc1]
  exact⟨h,none0 (Zwu hc1 hc2 h)⟩
 ·cases c<;>simp only[Zov,Bool.false_eq_true] at hc
  simp only[vop] at h ⊢
  exact⟨h,(Znx hb hc h hok).2⟩
theorem Zwv {c:COp} (hc:ZlE c=true) (he:∀ x∈ZT c,evO sl' x=evO sl x) (hs:∀ x∈ZT c,Zln g hp hp' (evO sl x)) {ce:Zc}
  (hn:∀ x∈ZT c,∀ id∈ZI (evO sl x),id∉g) (hb:∀ k,base≤k→k<base+64→k∉g)
  (h:vop C M sl' hp' base c=some ce) (hok:Xl base (base+64) ce.eff.adds=true) (hfz:ce.eff.frz=[]) (ho:okV ce.eff.val=true):vop C M sl hp base c=some ce∧kill g ce.eff.val=ce.eff.val∧∀ k o,(k,o)∈ce.eff.adds→YN g o=o:=by
 rw[X7 C M hp' base he] at h
 have none0:ce.eff.adds=[]→∀ k o,(k,o)∈ce.eff.adds→YN g o=o:=fun e k o hm=>by rw[e] at hm;simp at hm
 have names:(∀ id∈ZI ce.eff.val,id∉g)→kill g ce.eff.val=ce.eff.val:=ZxT ho
 cases c<;>simp only[ZlE,Bool.false_eq_true] at hc<;>simp only[vop] at h ⊢ <;> simp only[ZT] at hs hn
 case alloc slc cs=>
  obtain⟨h1,h2⟩:=Znx hb hc h hok
  exact⟨h,names h1,h2⟩
 case buildSl s xs=>
  obtain⟨h1,h2,h3⟩:=Zkb h hfz hp
  refine⟨h1,names fun id hid=>?_,fun k o hm=>?_⟩
  ·rcases h2 with h2 | h2
   ·rw[h2] at hid;simp[ZI,ZJ,Zp] at hid
   ·rw[h2] at hid;simp[ZI,ZJ,Zp] at hid;subst hid;exact hb _ (Nat.le_refl _) (by omega)
  ·obtain⟨sz,xs,e,f,rfl⟩:=h3 k o hm
   rfl
 case load a s x=>
  obtain⟨h1,h2⟩:=Zy7 (hs x (by simp)) (Zcs h) ho
  exact⟨ZxU h h1,h2,none0 (Xk h)⟩
 case nilCheck x=>
  have hx:=hn x (by simp)
  refine⟨h,names ?_,none0 ?_⟩
  ·unfold Za1 at h
   split at h<;>rename_i hv<;>first | (cases h;done) | (cases h;show ∀ id∈ZI _,_;rw[← hv];exact hx)
  ·unfold Za1 at h;split at h<;>first | exact Qt h | cases h
 case bin op eq x y=>
  have hd:∃ d,ce.eff.val=.d d:=by
   have o2:∀ {a b:AV},WL (vbin op a b)=some ce→∃ d,ce.eff.val=.d d:=fun {a b} h=>by
    have h1:=Zcs h
    unfold vbin at h1
    split at h1
    ·unfold ZaV at h1
     split at h1
     ·obtain⟨y,_,h1⟩:=Za h1;exact⟨_,(Option.some.inj h1).symm⟩
     ·obtain⟨y,_,h1⟩:=Za h1;exact⟨_,(Option.some.inj h1).symm⟩
     ·split at h1
      ·obtain⟨y,_,h1⟩:=Za h1
       have:=Option.some.inj h1
       exact⟨_,this.symm⟩
      ·cases h1
    ·obtain⟨y,_,h1⟩:=Za h1
     have:=Option.some.inj h1
     exact⟨_,this.symm⟩
    ·cases h1
   unfold ZiC at h
   split at h
   ·split at h
    ·have h1:=Zcs h
     unfold ZrB at h1
     split at h1
     ·exact⟨_,(Option.some.inj h1).symm⟩
     ·exact⟨_,(Option.some.inj h1).symm⟩
     ·cases h1
    ·cases h
   ·exact o2 h
  obtain⟨d,hd⟩:=hd
  refine⟨h,by rw[hd];rfl,none0 ?_⟩
  unfold ZiC at h
  split at h
  ·split at h
   ·exact Xk h
   ·cases h
  ·exact Xk h
 case un op x=>
  have hd:∃ d,ce.eff.val=.d d:=by
   have h1:=Zcs h
   unfold vun at h1
   split at h1
   ·unfold neg1 at h1
    split at h1
    ·exact⟨_,(Option.some.inj h1).symm⟩
    ·cases h1
   ·unfold not1 at h1
    split at h1
    ·exact⟨_,(Option.some.inj h1).symm⟩
    ·cases h1
   ·cases h1
  obtain⟨d,hd⟩:=hd
  exact⟨h,by rw[hd];rfl,none0 (Xk h)⟩
 case convI k x=>
  unfold Go.Abs.convI at h ⊢
  split at h
  ·exact⟨h,by cases h;rfl,none0 (Qt h)⟩
  ·cases h
 case shift off x=>
  have hx:=hn x (by simp)
  refine⟨h,names ?_,none0 ?_⟩
  ·unfold WM at h
   split at h<;>rename_i hv<;>first | (cases h;done) | skip
   ·cases h;rw[hv] at hx;simpa [ZI,ZJ,Zp] using hx
   ·cases h;rw[hv] at hx;simpa [ZI,ZJ,Zp] using hx
   ·cases h;simp[ZI,ZJ,Zp]
  ·unfold WM at h;split at h<;>first | exact Qt h | cases h
 case slice s x lo hi=>
  have hx:=hn x (by simp)
  rw[Ziu (hs x (by simp))] at h
  refine⟨h,names ?_,none0 (Xk h)⟩
  have h1:=Zcs h
  cases hv:evO sl x<;>rw[hv] at h1 hx<;>simp only[Ux] at h1<;>first | (cases h1;done) | skip
  case d y=>
   cases y<;>simp only[Ux] at h1<;>first | (cases h1;done) | skip
   split at h1
   ·obtain⟨b,_,h1⟩:=Za h1;rw[← Option.some.inj h1];simp[ZI,ZJ,Zp]
   ·cases h1
  case nil=>obtain⟨b,_,h1⟩:=Za h1;rw[← Option.some.inj h1];simp[ZI,ZJ,Zp]
  case own id=>
   unfold Zd2 at h1
   split at h1
   ·split at h1
    ·unfold ZuO at h1
     split at h1
     ·rw[← Option.some.inj h1];exact hx
     ·obtain⟨b,_,h1⟩:=Za h1;rw[← Option.some.inj h1];simpa [ZI,ZJ,Zp] using hx
    ·cases h1
   ·cases h1
  case ownv id off n=>
   unfold ZbJ at h1
   split at h1
   ·split at h1
    ·obtain⟨b,_,h1⟩:=Za h1;rw[← Option.some.inj h1];simpa [ZI,ZJ,Zp] using hx
    ·cases h1
   ·cases h1
 case sliceS x lo hi=>
  have hd:∃ d,ce.eff.val=.d d:=by
   have h1:=Zcs h
   unfold sliceS at h1
   split at h1
   ·obtain⟨b,_,h1⟩:=Za h1;exact⟨_,(Option.some.inj h1).symm⟩
   ·cases h1
  obtain⟨d,hd⟩:=hd
  exact⟨h,by rw[hd];rfl,none0 (Xk h)⟩
 case lenS x=>
  obtain⟨n,h1,h⟩:=Za h
  refine⟨by rw[h1,Zf];exact h,by cases h;rfl,none0 (Qt h)⟩
 case iaS s x i=>
  have hx:=hn x (by simp)
  obtain⟨n,h1,h⟩:=Za h
  rw[h1,Zf]
  unfold ZiD at h ⊢
  rw[ZcM (hs x (by simp))] at h
  refine⟨h,names ?_,none0 ?_⟩
  ·split at h
   ·have h1:=Zcs h
    cases hv:evO sl x<;>rw[hv] at h1 hx<;>simp only[QW] at h1<;>first | (cases h1;done) | skip
    case d y=>
     cases y<;>simp only[QW] at h1<;>first | (cases h1;done) | skip
     obtain⟨b,_,h1⟩:=Za h1
     unfold Zx2 at h1
     split at h1
     ·rw[← Option.some.inj h1];simp[ZI,ZJ,Zp]
     ·cases h1
    case own id=>
     unfold Zfd at h1
     split at h1
     ·split at h1
      ·rw[← Option.some.inj h1];simpa [ZI,ZJ,Zp] using hx
      ·cases h1
     ·split at h1
      ·rw[← Option.some.inj h1];simpa [ZI,ZJ,Zp] using hx
      ·cases h1
     ·cases h1
    case ownv id off n=>
     unfold Zd1 at h1
     split at h1
     ·split at h1
      ·rw[← Option.some.inj h1];simpa [ZI,ZJ,Zp] using hx
      ·cases h1
     ·cases h1
   ·cases h
  ·split at h
   ·exact Xk h
   ·cases h
 case len x=>
  rw[Zgs (hs x (by simp))] at h
  obtain⟨n,h1,h2⟩:=Za h
  exact⟨h,by cases h2;rfl,none0 (Qt h2)⟩
end
end Go.Abs
