/- The abstract semantics: calls in regions that draw,done in another order. Own text. -/
import Derived.Test.YtemkonmgcoceaaaDoorAbsDrawC
set_option linter.unusedVariables false
set_option linter.unusedSimpArgs false
namespace Go.Abs
open Go
theorem Zn5 {hp:Hp} {m:Bool} {x y:AV} (h:Jx hp m x=some y):∀ k∈WM y,k∈WM x:=by
 intro k hk
 have nod:∀ {r:Option D},asD r=some y→False:=fun {r} h=>by
  obtain⟨d,_,h⟩:=Za h
  cases h;simp[WM] at hk
 cases x<;>simp only[Jx] at h<;>first | (exact(nod h).elim) | skip
 case d d=>cases h;simp[WM] at hk
 case nil=>cases m<;>simp only[Zbv] at h<;>(cases h;simp[WM] at hk)
 case nilp=>cases h;exact hk
 case nili=>cases h;exact hk
 case ptr a b=>cases h;exact hk
 case pim c=>cases h;exact hk
 case clo f c=>cases h;exact hk
 case own id=>
  cases m<;>simp only[Zaz] at h
  ·exact(nod h).elim
  ·cases h;simp[WM] at hk
theorem Zir {hp:Hp} {m:Nat→Bool}:∀ {xs ys:List AV} (i:Nat),args hp m i xs=some ys→∀ y∈ys,∀ k∈WM y,∃ x∈xs,k∈WM x
 | [],ys,i,h,y,hy,k,hk=>by simp only[args] at h;cases h;simp at hy
 | x :: xs,ys,i,h,y,hy,k,hk=>by
  simp only[args] at h
  obtain⟨a,h1,h⟩:=Za h
  obtain⟨as,h2,h⟩:=Za h
  cases h
  rcases List.mem_cons.1 hy with rfl | hy
  ·exact⟨x,by simp,Zn5 h1 k hk⟩
  ·obtain⟨x',h3,h4⟩:=Zir (i+1) h2 y hy k hk
   exact⟨x',by simp[h3],h4⟩
theorem ZgG {x:AV}:∀ id∈W1 x,id∈Zf x:=by
 intro id h
 cases x<;>simp[W1] at h<;>simp[Zf,h]
theorem ZkL {x:AV}:∀ id∈Zap x,id∈Zs x:=by
 intro id h
 cases x<;>simp only[Zap] at h<;>first | exact ZgG id h | (simp[W1] at h;done) | skip
 case agg cs=>
  obtain⟨c,h1,h2⟩:=List.mem_flatMap.1 h
  exact List.mem_flatMap.2 ⟨c,h1,ZgG id h2⟩
theorem Zff:∀ {xs ys:List AV},∀ i∈XJ xs ys,∃ x∈xs,i∈Zs x
 | [],ys,i,h=>by cases ys<;>simp[XJ] at h
 | x :: xs,[],i,h=>by simp[XJ] at h
 | x :: xs,y :: ys,i,h=>by
  have key:i∈XJ xs ys→∃ x'∈x :: xs,i∈Zs x':=fun h=>by
   obtain⟨x',h1,h2⟩:=Zff i h
   exact⟨x',by simp[h1],h2⟩
  rw[ZeZ] at h
  rcases List.mem_append.1 h with h | h
  ·cases y<;>simp only[ZmW] at h<;>first | (simp at h;done) | exact⟨x,by simp,ZkL i h⟩
  ·exact key h
theorem Zn6 {C:Orc} {m:Nat→Bool} {hp:Hp} {base f:Nat} {avs:List AV} {ce:Zb} (h:W4 C m hp base f avs=some ce) :
  ce.eff.dels=[]∧(∀ i∈ce.eff.frz,∃ a∈avs,i∈Zs a)∧(∀ i∈ce.gone,∃ o,lkp hp i=some o)∧(∀ k o,(k,o)∈ce.eff.sets→(∃ o,lkp hp k=some o)∧(k∈ce.gone∨∃ a∈avs,k∈WM a)):=by
 unfold W4 at h
 obtain⟨as,h1,h⟩:=Za h
 unfold Jd at h
 split at h
 ·rename_i hc
  obtain⟨⟨r,out⟩,h2,h⟩:=Za h
  unfold VX at h
  split at h
  ·cases h
  split at h
  ·cases h
  ·cases h
   obtain⟨_,_,hpres⟩:=WK hp (QI hp) (as.flatMap Zs) [] List.nodup_nil
   have hpres' : ∀ id∈Qj hp (QI hp) (as.flatMap Zs) [],∃ o,lkp hp id=some o:=fun id hid=>(hpres id hid).resolve_left (by simp)
   refine⟨rfl,fun i hi=>?_,fun i hi=>?_,fun k o hk=>?_⟩
   ·simp only at hi
    split at hi
    ·simp at hi
    ·exact Zff i hi
   ·exact hpres' i (List.mem_filter.1 hi).1
   ·obtain⟨q,o0,h3,_,_⟩:=Zat _ _ _ _ _ hk
    have hk':=List.mem_of_getElem? h3
    refine⟨hpres' k hk',?_⟩
    have:=List.all_eq_true.1 hc.2.2 k hk'
    simp only[Bool.or_eq_true,List.contains_eq_mem,decide_eq_true_eq] at this
    rcases this with h4 | h4
    ·exact .inl (List.mem_filter.2 ⟨hk',h4⟩)
    ·obtain⟨y,h5,h6⟩:=List.mem_flatMap.1 h4
     exact .inr (Zir 0 h1 y h5 k h6)
 ·cases h
theorem Zbo:∀ {l:Hp} {hp:Hp} {k:Nat} {o:Zi},(∃ o',(k,o')∈l)→lkp (Zc hp l) k=some o→(k,o)∈l
 | [],hp,k,o,h,_=>by obtain⟨o',h⟩:=h;simp at h
 | (a,x) :: r,hp,k,o,h,hl=>by
  simp only[Zc] at hl
  by_cases h1:∃ o',(k,o')∈r
  ·exact List.mem_cons_of_mem _ (Zbo h1 hl)
  ·rw[Zn r _ k fun o' ho'=>h1 ⟨o',ho'⟩,ZZ] at hl
   obtain⟨o',h2⟩:=h
   rcases List.mem_cons.1 h2 with h2 | h2
   ·cases h2
    rw[if_pos rfl] at hl
    cases hl
    exact List.mem_cons_self ..
   ·exact absurd ⟨o',h2⟩ h1
theorem UJ:∀ {l:Hp} {hp hp' : Hp} {k:Nat},(∃ o',(k,o')∈l)→lkp (Zc hp l) k=lkp (Zc hp' l) k
 | [],hp,hp',k,h=>by obtain⟨o',h⟩:=h;simp at h
 | (a,x) :: r,hp,hp',k,h=>by
  simp only[Zc]
  by_cases h1:∃ o',(k,o')∈r
  ·exact UJ h1
  ·rw[Zn r _ k fun o' ho'=>h1 ⟨o',ho'⟩,Zn r _ k fun o' ho'=>h1 ⟨o',ho'⟩,ZZ,ZZ]
   obtain⟨o',h2⟩:=h
   rcases List.mem_cons.1 h2 with h2 | h2
   ·cases h2;simp
   ·exact absurd ⟨o',h2⟩ h1
theorem Wk:∀ (l:Hp) {hp hp' : Hp} {k:Nat},lkp hp k=lkp hp' k→lkp (Zc hp l) k=lkp (Zc hp' l) k
 | [],hp,hp',k,h=>h
 | (a,x) :: r,hp,hp',k,h=>by
  simp only[Zc]
  exact Wk r (by rw[ZZ,ZZ,h])
theorem Zm5 {ce:Zb} {dX dY:Option Nat} {v:AV} {ax:Hp} {s:Sl×Hp} (hd:Wq dX dY=true) (hdel:ce.eff.dels=[])
  (h1:∀ k o,(k,o)∈ax→(∀ o',(k,o')∉ce.eff.sets)∧(∀ o',(k,o')∉ce.eff.adds)∧k∉ce.eff.frz) (h2:∀ k o,(k,o)∈ax→Q2 ce.gone o=o) (hv:kill ce.gone v=v) :
  Q3 (Zl (ce.on dY s.1 s.2).1 dX v,Zc (ce.on dY s.1 s.2).2 ax) (ce.on dY (Zl s.1 dX v) (Zc s.2 ax)):=by
 refine⟨fun t=>?_,fun k=>?_⟩
 ·show gs (Zl (Zl (QJ ce.gone s.1) dY ce.eff.val) dX v) t=gs (Zl (QJ ce.gone (Zl s.1 dX v)) dY ce.eff.val) t
  simp only[Qa,Qo]
  by_cases hx:dX=some t
  ·have hy:¬dY=some t:=fun e=>by rw[hx,e] at hd;simp[Wq] at hd
   simp[hx,hy,hv]
  ·simp[hx]
 ·show lkp (Zc (ce.eff.on (XM ce.gone s.2)) ax) k=lkp (ce.eff.on (XM ce.gone (Zc s.2 ax))) k
  unfold Eff.on
  rw[hdel]
  simp only[Z4]
  by_cases hk:∃ o,(k,o)∈ax
  ·obtain⟨o,ho⟩:=hk
   obtain⟨g1,g2,g3⟩:=h1 k o ho
   rw[Zn _ (Zc (ZX ce.eff.frz (XM ce.gone (Zc s.2 ax))) ce.eff.sets) k g2,Zn _ (ZX ce.eff.frz (XM ce.gone (Zc s.2 ax))) k g1]
   rw[ZO,X0]
   rw[UJ (hp':=s.2) ⟨o,ho⟩]
   cases hl:lkp (Zc s.2 ax) k with
   | none=>rfl
   | some o' =>
    have:=h2 k o' (Zbo ⟨o,ho⟩ hl)
    simp[this,g3]
  ·have hk' : ∀ o,(k,o)∉ax:=fun o ho=>hk ⟨o,ho⟩
   rw[Zn ax _ k hk']
   refine Wk _ (Wk _ ?_)
   rw[ZO,ZO,X0,X0,Zn ax _ k hk']
structure Zeo (ce:Zb):Prop where
 gone:ce.gone=[]
 sets:ce.eff.sets=[]
 dels:ce.eff.dels=[]
 frz:ce.eff.frz=[]
theorem ZkM {ce:Zb} (h:Zeo ce) (d:Option Nat) (s:Sl×Hp):ce.on d s.1 s.2=(Zl s.1 d ce.eff.val,Zc s.2 ce.eff.adds):=by
 unfold Zb.on Eff.on
 rw[h.gone,h.sets,h.dels,h.frz]
 rfl
theorem Zmc {C:Orc} {M:Zj} {nx i:Nat} {o:CO} {s s' : Sl×Hp} (h:ZE C M nx i false o s=some s') :
  (ZM s.1 o.guard=some false∧s'=(Zl s.1 o.dst (.tup []),s.2)) ∨
  (ZM s.1 o.guard=some true∧∃ ce,Zeo ce∧vop C M s.1 s.2 (nx+64*i) o.op=some ce∧Qs (nx+64*i) (nx+64*i+64) ce.eff.adds=true∧s'=(Zl s.1 o.dst ce.eff.val,Zc s.2 ce.eff.adds)):=by
 unfold ZE at h
 obtain⟨b,hw,h⟩:=Za h
 cases b with
 | true=>
  simp only[if_true] at h
  obtain⟨ce,h1,h2,rfl⟩:=QB h
  unfold Yw at h1
  simp only[Bool.false_eq_true,if_false] at h1
  unfold UZ at h1
  obtain⟨c,h3,h1⟩:=Za h1
  unfold ZaN at h1
  split at h1
  ·rename_i e1 e2 e3 e4
   cases h1
   have hq:Zeo ce:=⟨e1,e2,e3,e4⟩
   exact .inr ⟨hw,ce,hq,h3,h2,ZkM hq _ s⟩
  ·cases h1
 | false=>
  simp only[Bool.false_eq_true,if_false] at h
  cases h
  exact .inl ⟨hw,rfl⟩
theorem ZbS {C:Orc} {M:Zj} {nx i:Nat} {o:CO} {s:Sl×Hp} {ce:Zb} (hw:ZM s.1 o.guard=some true) (hq:Zeo ce) (hv:vop C M s.1 s.2 (nx+64*i) o.op=some ce) (hk:Qs (nx+64*i) (nx+64*i+64) ce.eff.adds=true) :
  ZE C M nx i false o s=some (Zl s.1 o.dst ce.eff.val,Zc s.2 ce.eff.adds):=by
 unfold ZE
 rw[hw,Zd]
 simp only[if_true]
 unfold XE Yw
 simp only[Bool.false_eq_true,if_false]
 rw[hv]
 simp only[UZ,Zd,hq.gone,hq.sets,hq.dels,hq.frz,ZaN]
 rw[if_pos hk,ZkM hq _ s]
theorem XC {C:Orc} {M:Zj} {nx i:Nat} {t:Bool} {o:CO} {s:Sl×Hp} (hw:ZM s.1 o.guard=some false):ZE C M nx i t o s=some (Zl s.1 o.dst (.tup []),s.2):=by
 unfold ZE
 rw[hw,Zd]
 rfl
theorem ZbT {sl sl' : Sl} {g:List Nat} {gd:Option (Nat×Bool)} (h:∀ q,gd=some q→gs sl' q.1=kill g (gs sl q.1)):ZM sl' gd=ZM sl gd:=by
 cases gd with
 | none=>rfl
 | some q=>
  simp only[ZM,h q rfl]
  cases gs sl q.1 with
  | d x=>rfl
  | tup vs=>cases vs<;>rfl
  | ptr a b=>simp only[kill,ZG,ZQ];split<;>rfl
  | prow a b c d=>simp only[kill,ZG,ZQ];split<;>rfl
  | own a=>simp only[kill,ZG,ZQ];split<;>rfl
  | ownv a b c=>simp only[kill,ZG,ZQ];split<;>rfl
  | sub a b=>simp only[kill,ZG,ZQ];split<;>rfl
  | bnil a b=>simp only[kill,ZG,ZQ];split<;>rfl
  | _=>rfl
end Go.Abs
