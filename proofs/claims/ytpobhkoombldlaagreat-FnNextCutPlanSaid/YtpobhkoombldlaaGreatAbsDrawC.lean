/- The abstract semantics: calls in regions that draw. Own text. -/
import Derived.Test.YtpobhkoombldlaaGreatAbsDraw3
import Derived.Test.YtpobhkoombldlaaGreatAbsSound5
set_option linter.unusedVariables false
set_option linter.unusedSimpArgs false
namespace Go.Abs
open Go
theorem Zx9 {v:AV} (h:okC v=true):okV v=true:=by
 cases v<;>first | exact h | cases h
theorem Znf {g:List Nat} {v:AV} (h:okC (Qv g v)=true):Qv g v=v:=by
 cases v<;>simp only[Qv] at h ⊢ <;> first | rfl | (split at h<;>rename_i h' <;> first | (cases h;done) | rw[if_neg h'])
theorem Zlp {g:List Nat}:∀ {cs:List AV},Zug (cs.map (Qv g))=true→cs.map (Qv g)=cs
 | [],_=>rfl
 | c :: cs,h=>by
  simp only[List.map_cons,Zug,Bool.and_eq_true] at h ⊢
  rw[Znf h.1,Zlp h.2]
theorem ZhH {g:List Nat} {v:AV} (h:okV (Z7 g v)=true):Z7 g v=v:=by
 cases v with
 | agg cs=>simp only[Z7,okV] at h ⊢;rw[Zlp h]
 | clo f cs=>simp only[Z7,okV,okC] at h;cases h
 | tup vs=>rfl
 | _=>
  simp only[Z7] at h ⊢
  refine Znf ?_
  revert h
  simp only[Qv]
  first | exact id | (split<;>first | exact id | (intro h;cases h))
theorem Zf8 {g:List Nat} {v:AV} (h:okV (kill g v)=true):kill g v=v:=by
 cases v with
 | tup vs=>
  cases vs with
  | nil=>rfl
  | cons x r=>simp only[kill,List.map_cons,okV,okC] at h;cases h
 | _=>simp only[kill] at h ⊢;exact ZhH h
theorem Zvn {g:List Nat} {v:AV} (hn:∀ id∈Zq v,id∉g):Qv g v=v:=by
 cases v<;>simp only[Qv]<;>first | rfl | (rw[if_neg];simpa [Zq] using hn)
theorem Zya {g:List Nat} {v:AV} (h:okV v=true) (hn:∀ id∈ZH v,id∉g):kill g v=v:=by
 cases v with
 | tup vs=>
  cases vs with
  | nil=>rfl
  | cons x r=>simp only[okV,okC] at h;cases h
 | clo f cs=>simp only[okV,okC] at h;cases h
 | agg cs=>
  simp only[kill,Z7]
  congr 1
  rw[List.map_congr_left (g:=id),List.map_id]
  intro c hc
  exact Zvn fun id hid=>hn id (by simp only[ZH,ZI,List.mem_flatMap];exact⟨c,hc,hid⟩)
 | _=>simp only[kill,Z7];exact Zvn hn
theorem Zz4 {g:List Nat} {v:AV} (h:kill g v=v):∀ id∈ZH v,id∉g:=fun id hid=>(Znb g v id (by rw[h];exact hid)).2
theorem ZyT {g:List Nat} {c:AV} (h:okC c=true) (h1:Qv g c=c):Z7 g c=c:=by
 cases c<;>simp only[Z7]<;>first | exact h1 | cases h
def Zf9 (g:List Nat):Option Zt→Option Zt→Prop
 | none,none=>True
 | some (.row s xs _ _),some (.row s' xs' _ _)=>s'=s∧xs'=xs
 | some (.box cs),some (.box cs')=>cs'=cs.map (Z7 g)
 | some (.deep s n xs l),some (.deep s' n' xs' l')=>s'=s∧n'=n∧xs'=xs∧l'=Zje g l
 | _,_=>False
theorem Zvo {g:List Nat} {b:Bool} (o:Option Zt):Zf9 g o ((o.map (Yw g)).map fun o=>if b then WS o else o):=by
 cases o with
 | none=>trivial
 | some o=>cases o<;>cases b<;>exact(by first | exact⟨rfl,rfl⟩ | exact rfl | exact⟨rfl,rfl,rfl,rfl⟩)
theorem ZsO {g:List Nat}:∀ {l:List AV} {ds:List D},ZkM l=some ds→l.map (Z7 g)=l
 | [],ds,_=>rfl
 | v :: l,ds,h=>by
  simp only[ZkM] at h
  obtain⟨x,h1,h⟩:=Za h
  obtain⟨ds',h2,h⟩:=Za h
  have:Z7 g v=v:=by cases v<;>first | rfl | cases h1
  rw[List.map_cons,this,ZsO h2]
theorem ZpM {g:List Nat}:∀ {l:List AV} {ds:List D},ZkM (l.map (Z7 g))=some ds→l.map (Z7 g)=l
 | [],ds,_=>rfl
 | v :: l,ds,h=>by
  simp only[List.map_cons,ZkM] at h
  obtain⟨x,h1,h⟩:=Za h
  obtain⟨ds',h2,h⟩:=Za h
  have hv:Z7 g v=v:=by
   refine ZhH ?_
   cases hk:Z7 g v<;>rw[hk] at h1<;>first | rfl | cases h1
  rw[List.map_cons,hv,ZpM h2]
theorem Zjj (l:List AV):(∃ ds,ZkM l=some ds∧Ze8 l=.d (.agg ds))∨(ZkM l=none∧(Ze8 l=.junk∨Ze8 l=.agg l)):=by
 unfold Ze8
 cases h:ZkM l with
 | some ds=>exact .inl ⟨ds,rfl,rfl⟩
 | none=>
  refine .inr ⟨rfl,?_⟩
  unfold Zkc
  split
  ·rename_i h;cases h
  ·split
   ·exact .inl rfl
   ·exact .inr rfl
theorem Zma:∀ {l:List AV},Zug l=true→∀ c∈l,okC c=true
 | [],_,c,hc=>by simp at hc
 | x :: l,h,c,hc=>by
  simp only[Zug,Bool.and_eq_true] at h
  rcases List.mem_cons.1 hc with rfl | hc
  ·exact h.1
  ·exact Zma h.2 c hc
theorem ZyU {g:List Nat} {l:List AV} (h:okV (Ze8 l)=true) (hk:kill g (Ze8 l)=Ze8 l):l.map (Z7 g)=l:=by
 rcases Zjj l with ⟨ds,h1,h2⟩ | ⟨h1,h2 | h2⟩
 ·exact ZsO h1
 ·rw[h2] at h;cases h
 ·rw[h2] at h hk
  simp only[kill,Z7,AV.agg.injEq] at hk
  simp only[okV] at h
  have hm:=Zma h
  have hk' : ∀ c∈l,Qv g c=c:=by
   intro c hc
   have:=Zlp (g:=g) (cs:=l) (by rw[hk];exact h)
   exact Znf (by
    have h3:Qv g c∈l.map (Qv g):=List.mem_map_of_mem hc
    rw[hk] at h3
    exact hm _ h3)
  rw[List.map_congr_left (g:=id),List.map_id]
  intro c hc
  exact ZyT (hm c hc) (hk' c hc)
theorem ZyV {g:List Nat} {l:List AV} (h:okV (Ze8 (l.map (Z7 g)))=true):l.map (Z7 g)=l:=by
 rcases Zjj (l.map (Z7 g)) with ⟨ds,h1,h2⟩ | ⟨h1,h2 | h2⟩
 ·exact ZpM h1
 ·rw[h2] at h;cases h
 ·rw[h2] at h
  simp only[okV] at h
  have hm:=Zma h
  rw[List.map_congr_left (g:=id),List.map_id]
  intro c hc
  exact ZhH (Zx9 (hm _ (List.mem_map_of_mem hc)))
theorem ZwY {g:List Nat} {v:AV} (h:okV v=true) (hk:kill g v=v):Z7 g v=v:=by
 cases v with
 | tup vs=>rfl
 | _=>simp only[kill] at hk;exact hk
theorem ZwZ {g:List Nat} {v:AV} (h:okV v=true) (hk:Z7 g v=v):kill g v=v:=by
 cases v with
 | tup vs=>
  cases vs with
  | nil=>rfl
  | cons x r=>simp only[okV,okC] at h;cases h
 | _=>simp only[kill];exact hk
theorem ZkU {α β:Type} (f:α→β) (l:List α) (a b:Nat):((l.map f).drop a).take b=((l.drop a).take b).map f:=by
 rw[← List.map_drop,← List.map_take]
theorem Zvp {g:List Nat} {cs:List AV} {a:Bool} {s off:Nat} {v:AV} (h:ZdJ a s off (some (.box cs))=some v) (ho:okV v=true) (hk:kill g v=v):ZdJ a s off (some (.box (cs.map (Z7 g))))=some v:=by
 unfold ZdJ at h ⊢
 cases a with
 | true=>
  simp only[if_true] at h ⊢
  split at h
  ·rename_i hl
   cases h
   rw[if_pos (by simpa using hl),ZkU,ZyU ho hk]
  ·cases h
 | false=>
  simp only[Bool.false_eq_true,if_false] at h ⊢
  rw[List.getElem?_map,h]
  simp only[Option.map_some]
  rw[ZwY ho hk]
theorem Zvq {g:List Nat} {cs:List AV} {a:Bool} {s off:Nat} {v:AV} (h:ZdJ a s off (some (.box (cs.map (Z7 g))))=some v) (ho:okV v=true):ZdJ a s off (some (.box cs))=some v∧kill g v=v:=by
 unfold ZdJ at h ⊢
 cases a with
 | true=>
  simp only[if_true] at h ⊢
  split at h
  ·rename_i hl
   cases h
   rw[ZkU] at ho ⊢
   have he:=ZyV ho
   rw[he] at ho ⊢
   refine⟨by rw[if_pos (by simpa using hl)],?_⟩
   rcases Zjj ((cs.drop off).take s) with ⟨ds,h1,h2⟩ | ⟨h1,h2 | h2⟩
   ·rw[h2];rfl
   ·rw[h2] at ho;cases ho
   ·rw[h2] at ho ⊢
    simp only[okV] at ho
    have hm:=Zma ho
    simp only[kill,Z7,AV.agg.injEq]
    rw[List.map_congr_left (g:=id),List.map_id]
    intro c hc
    have h3:Z7 g c=c:=by
     refine ZhH ?_
     have h4:Z7 g c∈((cs.drop off).take s).map (Z7 g):=List.mem_map_of_mem hc
     rw[he] at h4
     exact Zx9 (hm _ h4)
    have:=hm c hc
    cases c<;>first | exact h3 | cases this
  ·cases h
 | false=>
  simp only[Bool.false_eq_true,if_false] at h ⊢
  rw[List.getElem?_map] at h
  cases hc:cs[off]? with
  | none=>rw[hc] at h;cases h
  | some c=>
   rw[hc] at h
   simp only[Option.map_some,Option.some.injEq] at h
   have h3:Z7 g c=c:=ZhH (by rw[h];exact ho)
   rw[h3] at h
   subst h
   exact⟨rfl,ZwZ ho h3⟩
theorem Zw0 {g:List Nat} {o o' : Option Zt} (h:Zf9 g o o'):ZbJ o'=ZbJ o:=by
 cases o with
 | none=>cases o' with
  | none=>rfl
  | some o'=>cases h
 | some o=>cases o' with
  | none=>cases o<;>cases h
  | some o'=>cases o<;>cases o' <;> simp only[Zf9] at h<;>first | (cases h;done) | rfl | (obtain⟨rfl,rfl⟩:=h;rfl) | (obtain⟨_,_,rfl,_⟩:=h;rfl)
theorem Zga {g:List Nat} {o o' : Option Zt} (h:Zf9 g o o'):(∃ s xs e f e' f',o=some (.row s xs e f)∧o'=some (.row s xs e' f'))∨(o=none∧o'=none)∨(∃ cs,o=some (.box cs)∧o'=some (.box (cs.map (Z7 g))))∨(∃ s n xs l,o=some (.deep s n xs l)∧o'=some (.deep s n xs (Zje g l))):=by
 cases o with
 | none=>cases o' with
  | none=>exact .inr (.inl ⟨rfl,rfl⟩)
  | some o'=>cases h
 | some o=>cases o' with
  | none=>cases o<;>cases h
  | some o' =>
   cases o with
   | box cs=>cases o' with
    | box cs'=>simp only[Zf9] at h;subst h;exact .inr (.inr (.inl ⟨cs,rfl,rfl⟩))
    | row _ _ _ _=>cases h
    | deep _ _ _ _=>cases h
   | row s xs e f=>cases o' with
    | box cs'=>cases h
    | row s' xs' e' f'=>simp only[Zf9] at h;obtain⟨rfl,rfl⟩:=h;exact .inl ⟨_,_,_,_,_,_,rfl,rfl⟩
    | deep _ _ _ _=>cases h
   | deep s n xs l=>cases o' with
    | box cs'=>cases h
    | row _ _ _ _=>cases h
    | deep s' n' xs' l'=>simp only[Zf9] at h;obtain⟨rfl,rfl,rfl,rfl⟩:=h;exact .inr (.inr (.inr ⟨_,_,_,_,rfl,rfl⟩))
section
variable {g:List Nat} {o o' : Option Zt}
theorem ZtU (h:Zf9 g o o') (sz id n:Nat):ZgQ sz id n o'=ZgQ sz id n o:=by
 rcases Zga h with ⟨s,xs,e,f,e',f',rfl,rfl⟩ | ⟨rfl,rfl⟩ | ⟨cs,rfl,rfl⟩ | ⟨s,n,xs,l,rfl,rfl⟩<;>rfl
theorem ZrL (h:Zf9 g o o') (sz id off m n:Nat):Zgf sz id off m n o'=Zgf sz id off m n o:=by
 rcases Zga h with ⟨s,xs,e,f,e',f',rfl,rfl⟩ | ⟨rfl,rfl⟩ | ⟨cs,rfl,rfl⟩ | ⟨s,n,xs,l,rfl,rfl⟩<;>rfl
theorem ZrM (h:Zf9 g o o') (s id:Nat) (lo hi:Option AV):Zgg s id lo hi o'=Zgg s id lo hi o:=by
 rcases Zga h with ⟨s,xs,e,f,e',f',rfl,rfl⟩ | ⟨rfl,rfl⟩ | ⟨cs,rfl,rfl⟩ | ⟨s,n,xs,l,rfl,rfl⟩<;>rfl
theorem ZpN (h:Zf9 g o o') (s id off n:Nat) (lo hi:Option AV):Zdi s id off n lo hi o'=Zdi s id off n lo hi o:=by
 rcases Zga h with ⟨s,xs,e,f,e',f',rfl,rfl⟩ | ⟨rfl,rfl⟩ | ⟨cs,rfl,rfl⟩ | ⟨s,n,xs,l,rfl,rfl⟩<;>rfl
theorem Zn9 {id i off:Nat} {l l' : Option (Nat×Nat×Nat)} {x:D} {v:AV} (h:ZhM id i off l x=some v) (ho:okV v=true):ZhM id i off l' x=some v∧∃ d,v=.d d:=by
 unfold ZhM at h ⊢
 split at h
 ·unfold ZvD at h
  split at h
  ·split at h
   ·cases h;cases ho
   ·cases h
  ·cases h
 ·split at h
  ·rename_i hp;cases h;exact⟨by rw[if_pos hp],_,rfl⟩
  ·cases h
 ·cases h
theorem Zmb {id:Nat} (h:Zf9 g o o') {a:Bool} {s sz i off:Nat} {v:AV} (ho:okV v=true):ZdK id a s sz i off o'=some v↔ZdK id a s sz i off o=some v:=by
 rcases Zga h with ⟨s,xs,e,f,e',f',rfl,rfl⟩ | ⟨rfl,rfl⟩ | ⟨cs,rfl,rfl⟩ | ⟨s,n,xs,l,rfl,rfl⟩
 ·exact Iff.rfl
 ·exact Iff.rfl
 ·exact Iff.rfl
 ·simp only[ZdK]
  split
  ·split
   ·exact Iff.rfl
   ·constructor<;>intro hh<;>obtain⟨x,h1,hh⟩:=Za hh<;>rw[h1,Zj]<;>exact(Zn9 hh ho).1
  ·exact Iff.rfl
end
section
variable {hp hp' : Hp} {g:List Nat}
def Zmc (g:List Nat) (hp hp' : Hp) (v:AV):Prop:=∀ k∈ZH v,Zf9 g (lkp hp k) (lkp hp' k)
theorem ZhI {v:AV} (h:Zmc g hp hp' v):Zhi hp' v=Zhi hp v:=by
 cases v<;>simp only[Zhi]
 case d x=>cases x<;>rfl
 case own id=>rw[Zw0 (h id (by simp[ZH,ZI,Zq]))]
theorem ZeT {v:AV} (h:Zmc g hp hp' v) (sz n:Nat):QP hp' sz n v=QP hp sz n v:=by
 cases v<;>simp only[QP]
 case d x=>cases x<;>rfl
 case own id=>rw[ZtU (h id (by simp[ZH,ZI,Zq]))]
 case ownv id off n=>rw[ZrL (h id (by simp[ZH,ZI,Zq]))]
theorem Zjk {v:AV} (h:Zmc g hp hp' v) (s:Nat) (lo hi:Option AV):Uz hp' s lo hi v=Uz hp s lo hi v:=by
 cases v<;>simp only[Uz]
 case d x=>cases x<;>rfl
 case own id=>rw[ZrM (h id (by simp[ZH,ZI,Zq]))]
 case ownv id off n=>rw[ZpN (h id (by simp[ZH,ZI,Zq]))]
theorem ZyW {x v:AV} (hs:Zmc g hp hp' x) {a:Bool} {s:Nat} (h:Zaf hp a s x=some v) (ho:okV v=true) (hk:kill g v=v):Zaf hp' a s x=some v:=by
 cases x<;>simp only[Zaf] at h ⊢ <;> first | (cases h;done) | skip
 case ptr id off=>
  rcases Zga (hs id (by simp[ZH,ZI,Zq])) with ⟨_,_,_,_,_,_,e1,e2⟩ | ⟨e1,e2⟩ | ⟨cs,e1,e2⟩ | ⟨_,_,_,_,e1,e2⟩
  ·rw[e1] at h;cases h
  ·rw[e1] at h;cases h
  ·rw[e1] at h;rw[e2];exact Zvp h ho hk
  ·rw[e1] at h;cases h
 case prow id sz i off=>exact(Zmb (hs id (by simp[ZH,ZI,Zq])) ho).2 h
 case pim cs=>exact h
theorem ZyX {id:Nat} {a:Bool} {s sz i off:Nat} {o:Option Zt} {v:AV} (h:ZdK id a s sz i off o=some v) (ho:okV v=true):∃ d,v=.d d:=by
 unfold ZdK at h
 split at h
 ·split at h
  ·obtain⟨x,_,h⟩:=Za h
   unfold Zmg at h
   split at h
   ·unfold Zhl at h
    split at h
    ·split at h
     ·cases h;exact⟨_,rfl⟩
     ·cases h
    ·unfold asD at h
     obtain⟨y,_,h⟩:=Za h
     cases h;exact⟨_,rfl⟩
   ·cases h
  ·cases h
 ·split at h
  ·split at h
   ·cases h
   ·obtain⟨x,_,h⟩:=Za h
    exact(Zn9 (l':=none) h ho).2
  ·cases h
 ·cases h
theorem Zz5 {a:Bool} {s off:Nat} {cs:List D} {v:AV} (h:Zhl a s off cs=some v):∃ d,v=.d d:=by
 unfold Zhl at h
 split at h
 ·split at h
  ·cases h;exact⟨_,rfl⟩
  ·cases h
 ·unfold asD at h
  obtain⟨y,_,h⟩:=Za h
  cases h;exact⟨_,rfl⟩
theorem ZyY {x v:AV} (hs:Zmc g hp hp' x) {a:Bool} {s:Nat} (h:Zaf hp' a s x=some v) (ho:okV v=true):Zaf hp a s x=some v∧kill g v=v:=by
 cases x<;>simp only[Zaf] at h ⊢ <;> first | (cases h;done) | skip
 case ptr id off=>
  rcases Zga (hs id (by simp[ZH,ZI,Zq])) with ⟨_,_,_,_,_,_,e1,e2⟩ | ⟨e1,e2⟩ | ⟨cs,e1,e2⟩ | ⟨_,_,_,_,e1,e2⟩
  ·rw[e2] at h;cases h
  ·rw[e2] at h;cases h
  ·rw[e2] at h;rw[e1];exact Zvq h ho
  ·rw[e2] at h;cases h
 case prow id sz i off=>
  have h:=(Zmb (hs id (by simp[ZH,ZI,Zq])) ho).1 h
  obtain⟨d,rfl⟩:=ZyX h ho
  exact⟨h,rfl⟩
 case pim cs=>
  obtain⟨d,rfl⟩:=Zz5 h
  exact⟨h,rfl⟩
theorem Zoa {x:AV} {d:D} {e:Bool} (h:Zfa hp x=some (d,e,[])) (hp' : Hp):Zfa hp' x=some (d,e,[]):=by
 cases x<;>simp only[Zfa] at h ⊢ <;> first | exact h | skip
 case own id=>obtain⟨q,_,h⟩:=Za h;simp at h
theorem Zob:∀ {xs:List AV} {d:List D} {e:Bool},UD hp xs=some (d,e,[])→∀ hp' : Hp,UD hp' xs=some (d,e,[])
 | [],d,e,h,hp'=>h
 | x :: xs,d,e,h,hp'=>by
  simp only[UD] at h ⊢
  obtain⟨⟨d1,e1,l1⟩,h1,h⟩:=Za h
  obtain⟨⟨d2,e2,l2⟩,h2,h⟩:=Za h
  have hl:l1=[]∧l2=[]:=by
   simp only at h
   split at h
   ·simp only[Option.some.injEq,Prod.mk.injEq,List.append_eq_nil_iff] at h;exact h.2.2
   ·cases h
  obtain⟨rfl,rfl⟩:=hl
  rw[Zoa h1 hp',Zj,Zob h2 hp',Zj]
  exact h
theorem Zw1 {x:AV} {d:D} {e:Bool} (h:give hp x=some (d,e,[])) (hp' : Hp):give hp' x=some (d,e,[]):=by
 cases x<;>simp only[give] at h ⊢ <;> first | exact Zoa h hp' | skip
 case agg cs=>
  obtain⟨⟨d1,e1,l1⟩,h1,h⟩:=Za h
  simp only[Option.some.injEq,Prod.mk.injEq] at h
  obtain⟨rfl,rfl,rfl⟩:=h
  rw[Zob h1 hp',Zj]
theorem ZkV:∀ {xs:List AV} {d:List D} {e:Bool},Jv hp xs=some (d,e,[])→∀ hp' : Hp,Jv hp' xs=some (d,e,[])
 | [],d,e,h,hp'=>h
 | x :: xs,d,e,h,hp'=>by
  simp only[Jv] at h ⊢
  obtain⟨⟨d1,e1,l1⟩,h1,h⟩:=Za h
  obtain⟨⟨d2,e2,l2⟩,h2,h⟩:=Za h
  have hl:l1=[]∧l2=[]:=by
   simp only at h
   split at h
   ·simp only[Option.some.injEq,Prod.mk.injEq,List.append_eq_nil_iff] at h;exact h.2.2
   ·cases h
  obtain⟨rfl,rfl⟩:=hl
  rw[Zw1 h1 hp',Zj,ZkV h2 hp',Zj]
  exact h
theorem ZkW {base s:Nat} {vs:List AV} {ce:Zf} (h:buildSl hp base s vs=some ce) (hf:ce.eff.frz=[]) (hp' : Hp) :
  buildSl hp' base s vs=some ce∧(ce.eff.val=.nil∨ce.eff.val=.own base)∧(∀ k o,(k,o)∈ce.eff.adds→∃ sz xs e f,o=.row sz xs e f):=by
 cases vs with
 | nil=>simp only[buildSl,Qm] at h ⊢;cases h;exact⟨rfl,.inl rfl,fun k o h=>by simp at h⟩
 | cons v vs=>
  simp only[buildSl] at h ⊢
  obtain⟨⟨ds,e,l⟩,h1,h⟩:=Za h
  unfold Zxd at h
  split at h
  ·rename_i hc
   cases h
   simp only at hf
   subst hf
   rw[ZkV h1 hp',Zj]
   refine⟨?_,.inr rfl,fun k o ho=>?_⟩
   ·unfold Zxd;rw[if_pos hc]
   ·simp at ho;obtain⟨rfl,rfl⟩:=ho;exact⟨_,_,_,_,rfl⟩
  ·cases h
end
theorem Zmd {C:Orc} {M:Zu} {sl:Sl} {hp hp' : Hp} {base:Nat} {c:COp} (hc:US c=true):vop C M sl hp base c=vop C M sl hp' base c:=by
 cases c<;>first | rfl | (simp[US] at hc)
section
variable {C:Orc} {M:Zu} {sl sl' : Sl} {hp hp' : Hp} {base:Nat} {g:List Nat}
theorem Qn {v:AV} {ce:Zf} (h:Qm v=some ce):ce.eff.adds=[]:=by cases h;rfl
theorem Q5 {v:Option AV} {ce:Zf} (h:UA v=some ce):ce.eff.adds=[]:=by obtain⟨v,_,h⟩:=Za h;exact Qn h
theorem Zey {v:Option AV} {ce:Zf} (h:UA v=some ce):v=some ce.eff.val:=by obtain⟨v,rfl,h⟩:=Za h;cases h;rfl
theorem Zyb {v:Option AV} {ce:Zf} {w:Option AV} (h:UA v=some ce) (hw:w=some ce.eff.val):UA w=some ce:=by
 obtain⟨v,rfl,h⟩:=Za h;cases h;rw[hw];rfl
theorem Zw2 {c:COp} (hc:US c=true) (hv:Zxn c=true) {ce:Zf} (h:vop C M sl hp base c=some ce):ce.eff.adds=[]:=by
 cases c<;>simp only[US,Zxn,Bool.false_eq_true] at hc hv<;>simp only[vop] at h
 case stuck=>cases h
 case move x=>exact Qn h
 case pick c a b=>
  unfold ZiY at h
  split at h
  ·split at h<;>exact Qn h
  ·cases h
 case build zs ps=>obtain⟨cs,_,h⟩:=Za h;exact Qn h
 case nilCheck x=>unfold ZbR at h;split at h<;>first | exact Qn h | cases h
 case bin op eq x y=>
  unfold Zfn at h
  split at h
  ·split at h
   ·exact Q5 h
   ·cases h
  ·exact Q5 h
 case un op x=>exact Q5 h
 case eqA neg n x y=>
  unfold ZrP at h
  split at h
  ·obtain⟨r,_,h⟩:=Za h;exact Qn h
  ·cases h
 case convI k x=>unfold Go.Abs.convI at h;split at h<;>first | exact Qn h | cases h
 case convS x=>unfold Go.Abs.convS at h;split at h<;>first | exact Qn h | cases h
 case sliceS x lo hi=>exact Q5 h
 case shift off x=>unfold WU at h;split at h<;>first | exact Qn h | cases h
 case part g s off x=>exact Q5 h
 case iaA len s x i=>
  obtain⟨n,_,h⟩:=Za h
  unfold Zoi at h
  split at h
  ·unfold WU at h;split at h<;>first | exact Qn h | cases h
  ·cases h
 case ixS x i=>
  obtain⟨n,_,h⟩:=Za h
  unfold ZvG at h
  split at h
  ·unfold Zs1 at h
   split at h
   ·obtain⟨b,_,h⟩:=Za h;exact Qn h
   ·cases h
  ·cases h
 case ixA g s len x i=>
  obtain⟨n,_,h⟩:=Za h
  unfold Zxe at h
  split at h
  ·exact Q5 h
  ·cases h
 case nth i x=>unfold Zt3 at h;split at h<;>first | exact Q5 h | cases h
 case lenS x=>obtain⟨n,_,h⟩:=Za h;exact Qn h
 case min x y=>unfold Zmk at h;split at h<;>first | (split at h<;>first | exact Qn h | cases h) | cases h
 case max x y=>unfold Zml at h;split at h<;>first | (split at h<;>first | exact Qn h | cases h) | cases h
theorem Zoc {c:AV} (h:Zjw c=true):Z7 g c=c:=by cases c<;>first | rfl | cases h
theorem Zin:∀ {cs:List AV},ZeA cs=true→∀ c∈cs,Zjw c=true
 | [],_,c,hc=>by simp at hc
 | x :: l,h,c,hc=>by
  simp only[ZeA,Bool.and_eq_true] at h
  rcases List.mem_cons.1 hc with rfl | hc
  ·exact h.1
  ·exact Zin h.2 c hc
theorem Zng:∀ (slc:List (Option Nat)) (cs:List AV) (b:Nat),(∀ c∈(mat slc cs b).1,c∈cs∨∃ k o,c=.own k∧(k,o)∈(mat slc cs b).2)∧∀ k o,(k,o)∈(mat slc cs b).2→∃ sz,o=.row sz [] true false
 | [],cs,b=>by simp only[mat];exact⟨fun c hc=>.inl hc,fun k o h=>by simp at h⟩
 | t :: ts,[],b=>by cases t<;>(simp only[mat];exact⟨fun c hc=>.inl hc,fun k o h=>by simp at h⟩)
 | t :: ts,v :: vs,b=>by
  by_cases hv:(∃ sz,t=some sz)∧v=.nil
  ·obtain⟨⟨sz,rfl⟩,rfl⟩:=hv
   obtain⟨h1,h2⟩:=Zng ts vs (b+1)
   simp only[mat]
   refine⟨fun c hc=>?_,fun k o h=>?_⟩
   ·rcases List.mem_cons.1 hc with rfl | hc
    ·exact .inr ⟨b,_,rfl,List.mem_cons_self ..⟩
    ·rcases h1 c hc with h | ⟨k,o,e,h⟩
     ·exact .inl (List.mem_cons_of_mem _ h)
     ·exact .inr ⟨k,o,e,List.mem_cons_of_mem _ h⟩
   ·rcases List.mem_cons.1 h with h | h
    ·cases h;exact⟨_,rfl⟩
    ·exact h2 k o h
  ·obtain⟨h1,h2⟩:=Zng ts vs b
   have e:mat (t :: ts) (v :: vs) b=(v :: (mat ts vs b).1,(mat ts vs b).2):=by
    cases t with
    | none=>simp[mat]
    | some sz=>cases v<;>first | (exact absurd ⟨⟨sz,rfl⟩,rfl⟩ hv) | simp[mat]
   rw[e]
   refine⟨fun c hc=>?_,h2⟩
   rcases List.mem_cons.1 hc with rfl | hc
   ·exact .inl (List.mem_cons_self ..)
   ·rcases h1 c hc with h | h
    ·exact .inl (List.mem_cons_of_mem _ h)
    ·exact .inr h
theorem Zod {slc:List (Option Nat)} {cs:List AV} {ce:Zf} (hb:∀ k,base≤k→k<base+64→k∉g) (hc:ZeA cs=true) (h:Zir slc base cs=some ce) (hok:Q7 base (base+64) ce.eff.adds=true) :
  (∀ id∈ZH ce.eff.val,id∉g)∧∀ k o,(k,o)∈ce.eff.adds→Yw g o=o:=by
 have hr:=Jz hok
 unfold Zir at h
 split at h
 ·cases h
  simp only at hr ⊢
  obtain⟨h1,h2⟩:=Zng slc cs (base+1)
  refine⟨fun id hid=>?_,fun k o hm=>?_⟩
  ·simp[ZH,ZI,Zq] at hid;subst hid;exact hb _ (Nat.le_refl _) (by omega)
  ·rcases List.mem_cons.1 hm with hm | hm
   ·cases hm
    simp only[Yw]
    congr 1
    rw[List.map_congr_left (g:=id),List.map_id]
    intro c hcm
    rcases h1 c hcm with h | ⟨k,o,rfl,h⟩
    ·exact Zoc (Zin hc c h)
    ·have:=hr k o (List.mem_cons_of_mem _ h)
     have hk:=hb k this.1 this.2
     simp[Z7,Qv,hk]
   ·obtain⟨sz,rfl⟩:=h2 k o hm;rfl
 ·cases h
  simp only at hr ⊢
  refine⟨fun id hid=>?_,fun k o hm=>?_⟩
  ·simp[ZH,ZI,Zq] at hid;subst hid;exact hb _ (Nat.le_refl _) (by omega)
  ·simp at hm
   obtain⟨rfl,rfl⟩:=hm
   simp only[Yw]
   congr 1
   rw[List.map_congr_left (g:=id),List.map_id]
   exact fun c hcm=>Zoc (Zin hc c hcm)
theorem ZyZ {c:COp} (hc:Zqh c=true) (he:∀ x∈ZP c,evO sl' x=evO sl x) (hs:∀ x∈ZP c,Zmc g hp hp' (evO sl x)) {ce:Zf}
  (hb:∀ k,base≤k→k<base+64→k∉g) (h:vop C M sl hp base c=some ce) (hok:Q7 base (base+64) ce.eff.adds=true) (hfz:ce.eff.frz=[]) (ho:okV ce.eff.val=true) (hk:kill g ce.eff.val=ce.eff.val):vop C M sl' hp' base c=some ce∧∀ k o,(k,o)∈ce.eff.adds→Yw g o=o:=by
 rw[XX C M hp' base he]
 have none0:ce.eff.adds=[]→∀ k o,(k,o)∈ce.eff.adds→Yw g o=o:=fun e k o hm=>by rw[e] at hm;simp at hm
 simp only[Zqh,Bool.or_eq_true,Bool.and_eq_true] at hc
 rcases hc with ((hc | hc) | ⟨hc1,hc2⟩) | hc
 ·cases c<;>simp only[ZbW,Bool.false_eq_true] at hc<;>simp only[vop] at h ⊢ <;> simp only[ZP] at hs
  case load a s x=>exact⟨Zyb h (ZyW (hs x (by simp)) (Zey h) ho hk),none0 (Q5 h)⟩
  case slice s x lo hi=>
   rw[Zjk (hs x (by simp))]
   exact⟨h,none0 (Q5 h)⟩
  case slice0 x hi mx=>
   unfold slice0 at h ⊢
   rw[ZhI (hs x (by simp))]
   exact⟨h,none0 (Q5 h)⟩
  case iaS s x i=>
   obtain⟨n,h1,h⟩:=Za h
   rw[h1,Zj]
   unfold Zjt at h ⊢
   rw[ZeT (hs x (by simp))]
   refine⟨h,none0 ?_⟩
   split at h
   ·exact Q5 h
   ·cases h
  case len x=>
   rw[ZhI (hs x (by simp))]
   refine⟨h,none0 ?_⟩
   obtain⟨n,_,h⟩:=Za h;exact Qn h
 ·cases c<;>simp only[Zs4,Bool.false_eq_true] at hc
  simp only[vop] at h ⊢
  obtain⟨h1,h2,h3⟩:=ZkW h hfz hp'
  refine⟨h1,fun k o hm=>?_⟩
  obtain⟨sz,xs,e,f,rfl⟩:=h3 k o hm
  rfl
 ·rw[← Zmd (hp:=hp) hc1]
  exact⟨h,none0 (Zw2 hc1 hc2 h)⟩
 ·cases c<;>simp only[Zpi,Bool.false_eq_true] at hc
  simp only[vop] at h ⊢
  exact⟨h,(Zod hb hc h hok).2⟩
theorem Zw3 {c:COp} (hc:Zms c=true) (he:∀ x∈ZP c,evO sl' x=evO sl x) (hs:∀ x∈ZP c,Zmc g hp hp' (evO sl x)) {ce:Zf}
  (hn:∀ x∈ZP c,∀ id∈ZH (evO sl x),id∉g) (hb:∀ k,base≤k→k<base+64→k∉g)
  (h:vop C M sl' hp' base c=some ce) (hok:Q7 base (base+64) ce.eff.adds=true) (hfz:ce.eff.frz=[]) (ho:okV ce.eff.val=true):vop C M sl hp base c=some ce∧kill g ce.eff.val=ce.eff.val∧∀ k o,(k,o)∈ce.eff.adds→Yw g o=o:=by
 rw[XX C M hp' base he] at h
 have none0:ce.eff.adds=[]→∀ k o,(k,o)∈ce.eff.adds→Yw g o=o:=fun e k o hm=>by rw[e] at hm;simp at hm
 have names:(∀ id∈ZH ce.eff.val,id∉g)→kill g ce.eff.val=ce.eff.val:=Zya ho
 cases c<;>simp only[Zms,Bool.false_eq_true] at hc<;>simp only[vop] at h ⊢ <;> simp only[ZP] at hs hn
 case alloc slc cs=>
  obtain⟨h1,h2⟩:=Zod hb hc h hok
  exact⟨h,names h1,h2⟩
 case buildSl s xs=>
  obtain⟨h1,h2,h3⟩:=ZkW h hfz hp
  refine⟨h1,names fun id hid=>?_,fun k o hm=>?_⟩
  ·rcases h2 with h2 | h2
   ·rw[h2] at hid;simp[ZH,ZI,Zq] at hid
   ·rw[h2] at hid;simp[ZH,ZI,Zq] at hid;subst hid;exact hb _ (Nat.le_refl _) (by omega)
  ·obtain⟨sz,xs,e,f,rfl⟩:=h3 k o hm
   rfl
 case load a s x=>
  obtain⟨h1,h2⟩:=ZyY (hs x (by simp)) (Zey h) ho
  exact⟨Zyb h h1,h2,none0 (Q5 h)⟩
 case nilCheck x=>
  have hx:=hn x (by simp)
  refine⟨h,names ?_,none0 ?_⟩
  ·unfold ZbR at h
   split at h<;>rename_i hv<;>first | (cases h;done) | (cases h;show ∀ id∈ZH _,_;rw[← hv];exact hx)
  ·unfold ZbR at h;split at h<;>first | exact Qn h | cases h
 case bin op eq x y=>
  have hd:∃ d,ce.eff.val=.d d:=by
   have o2:∀ {a b:AV},UA (vbin op a b)=some ce→∃ d,ce.eff.val=.d d:=fun {a b} h=>by
    have h1:=Zey h
    unfold vbin at h1
    split at h1
    ·unfold ZbK at h1
     split at h1
     ·obtain⟨y,_,h1⟩:=Za h1;exact⟨_,(Option.some.inj h1).symm⟩
     ·obtain⟨y,_,h1⟩:=Za h1;exact⟨_,(Option.some.inj h1).symm⟩
     ·split at h1
      ·obtain⟨y,_,h1⟩:=Za h1
       have:=Option.some.inj h1
       exact⟨_,this.symm⟩
      ·cases h1
    ·obtain⟨y,_,h1⟩:=Za h1
     have:=Option.some.inj h1
     exact⟨_,this.symm⟩
    ·cases h1
   unfold Zfn at h
   split at h
   ·split at h
    ·have h1:=Zey h
     unfold ZsB at h1
     split at h1
     ·exact⟨_,(Option.some.inj h1).symm⟩
     ·exact⟨_,(Option.some.inj h1).symm⟩
     ·cases h1
    ·cases h
   ·exact o2 h
  obtain⟨d,hd⟩:=hd
  refine⟨h,by rw[hd];rfl,none0 ?_⟩
  unfold Zfn at h
  split at h
  ·split at h
   ·exact Q5 h
   ·cases h
  ·exact Q5 h
 case un op x=>
  have hd:∃ d,ce.eff.val=.d d:=by
   have h1:=Zey h
   unfold vun at h1
   split at h1
   ·unfold neg1 at h1
    split at h1
    ·exact⟨_,(Option.some.inj h1).symm⟩
    ·cases h1
   ·unfold not1 at h1
    split at h1
    ·exact⟨_,(Option.some.inj h1).symm⟩
    ·cases h1
   ·cases h1
  obtain⟨d,hd⟩:=hd
  exact⟨h,by rw[hd];rfl,none0 (Q5 h)⟩
 case convI k x=>
  unfold Go.Abs.convI at h ⊢
  split at h
  ·exact⟨h,by cases h;rfl,none0 (Qn h)⟩
  ·cases h
 case shift off x=>
  have hx:=hn x (by simp)
  refine⟨h,names ?_,none0 ?_⟩
  ·unfold WU at h
   split at h<;>rename_i hv<;>first | (cases h;done) | skip
   ·cases h;rw[hv] at hx;simpa [ZH,ZI,Zq] using hx
   ·cases h;rw[hv] at hx;simpa [ZH,ZI,Zq] using hx
   ·cases h;simp[ZH,ZI,Zq]
  ·unfold WU at h;split at h<;>first | exact Qn h | cases h
 case slice s x lo hi=>
  have hx:=hn x (by simp)
  rw[Zjk (hs x (by simp))] at h
  refine⟨h,names ?_,none0 (Q5 h)⟩
  have h1:=Zey h
  cases hv:evO sl x<;>rw[hv] at h1 hx<;>simp only[Uz] at h1<;>first | (cases h1;done) | skip
  case d y=>
   cases y<;>simp only[Uz] at h1<;>first | (cases h1;done) | skip
   split at h1
   ·obtain⟨b,_,h1⟩:=Za h1;rw[← Option.some.inj h1];simp[ZH,ZI,Zq]
   ·cases h1
  case nil=>obtain⟨b,_,h1⟩:=Za h1;rw[← Option.some.inj h1];simp[ZH,ZI,Zq]
  case own id=>
   unfold Zgg at h1
   split at h1
   ·split at h1
    ·unfold ZvF at h1
     split at h1
     ·rw[← Option.some.inj h1];exact hx
     ·obtain⟨b,_,h1⟩:=Za h1;rw[← Option.some.inj h1];simpa [ZH,ZI,Zq] using hx
    ·cases h1
   ·cases h1
  case ownv id off n=>
   unfold Zdi at h1
   split at h1
   ·split at h1
    ·obtain⟨b,_,h1⟩:=Za h1;rw[← Option.some.inj h1];simpa [ZH,ZI,Zq] using hx
    ·cases h1
   ·cases h1
 case sliceS x lo hi=>
  have hd:∃ d,ce.eff.val=.d d:=by
   have h1:=Zey h
   unfold sliceS at h1
   split at h1
   ·obtain⟨b,_,h1⟩:=Za h1;exact⟨_,(Option.some.inj h1).symm⟩
   ·cases h1
  obtain⟨d,hd⟩:=hd
  exact⟨h,by rw[hd];rfl,none0 (Q5 h)⟩
 case lenS x=>
  obtain⟨n,h1,h⟩:=Za h
  refine⟨by rw[h1,Zj];exact h,by cases h;rfl,none0 (Qn h)⟩
 case iaS s x i=>
  have hx:=hn x (by simp)
  obtain⟨n,h1,h⟩:=Za h
  rw[h1,Zj]
  unfold Zjt at h ⊢
  rw[ZeT (hs x (by simp))] at h
  refine⟨h,names ?_,none0 ?_⟩
  ·split at h
   ·have h1:=Zey h
    cases hv:evO sl x<;>rw[hv] at h1 hx<;>simp only[QP] at h1<;>first | (cases h1;done) | skip
    case d y=>
     cases y<;>simp only[QP] at h1<;>first | (cases h1;done) | skip
     obtain⟨b,_,h1⟩:=Za h1
     unfold Zyj at h1
     split at h1
     ·rw[← Option.some.inj h1];simp[ZH,ZI,Zq]
     ·cases h1
    case own id=>
     unfold ZgQ at h1
     split at h1
     ·split at h1
      ·rw[← Option.some.inj h1];simpa [ZH,ZI,Zq] using hx
      ·cases h1
     ·split at h1
      ·rw[← Option.some.inj h1];simpa [ZH,ZI,Zq] using hx
      ·cases h1
     ·cases h1
    case ownv id off n=>
     unfold Zgf at h1
     split at h1
     ·split at h1
      ·rw[← Option.some.inj h1];simpa [ZH,ZI,Zq] using hx
      ·cases h1
     ·cases h1
   ·cases h
  ·split at h
   ·exact Q5 h
   ·cases h
 case len x=>
  rw[ZhI (hs x (by simp))] at h
  obtain⟨n,h1,h2⟩:=Za h
  exact⟨h,by cases h2;rfl,none0 (Qn h2)⟩
end
end Go.Abs
