/- The abstract semantics: calls in regions that draw,done in another order. Own text. -/
import Derived.Test.YtpobhkoombldlaaGreatAbsDrawC
set_option linter.unusedVariables false
set_option linter.unusedSimpArgs false
namespace Go.Abs
open Go
theorem Zy0 {hp:Hp} {m:Bool} {x y:AV} (h:Zhn hp m x=some y):∀ k∈Zez y,k∈Zez x:=by
 intro k hk
 have nod:∀ {r:Option D},asD r=some y→False:=fun {r} h=>by
  obtain⟨d,_,h⟩:=Za h
  cases h;simp[Zez] at hk
 cases x<;>simp only[Zhn] at h<;>first | (exact(nod h).elim) | skip
 case d d=>cases h;simp[Zez] at hk
 case nil=>cases m<;>simp only[Zjs] at h<;>(cases h;simp[Zez] at hk)
 case nilp=>cases h;exact hk
 case nili=>cases h;exact hk
 case ptr a b=>cases h;exact hk
 case pim c=>cases h;exact hk
 case clo f c=>cases h;exact hk
 case own id=>
  cases m<;>simp only[Ziq] at h
  ·exact(nod h).elim
  ·cases h;simp[Zez] at hk
theorem ZsP {hp:Hp} {m:Nat→Bool}:∀ {xs ys:List AV} (i:Nat),args hp m i xs=some ys→∀ y∈ys,∀ k∈Zez y,∃ x∈xs,k∈Zez x
 | [],ys,i,h,y,hy,k,hk=>by simp only[args] at h;cases h;simp at hy
 | x :: xs,ys,i,h,y,hy,k,hk=>by
  simp only[args] at h
  obtain⟨a,h1,h⟩:=Za h
  obtain⟨as,h2,h⟩:=Za h
  cases h
  rcases List.mem_cons.1 hy with rfl | hy
  ·exact⟨x,by simp,Zy0 h1 k hk⟩
  ·obtain⟨x',h3,h4⟩:=ZsP (i+1) h2 y hy k hk
   exact⟨x',by simp[h3],h4⟩
theorem ZpO {x:AV}:∀ id∈Ze9 x,id∈Zq x:=by
 intro id h
 cases x<;>simp[Ze9] at h<;>simp[Zq,h]
theorem Zvr {x:AV}:∀ id∈Zig x,id∈ZH x:=by
 intro id h
 cases x<;>simp only[Zig] at h<;>first | exact ZpO id h | (simp[Ze9] at h;done) | skip
 case agg cs=>
  obtain⟨c,h1,h2⟩:=List.mem_flatMap.1 h
  exact List.mem_flatMap.2 ⟨c,h1,ZpO id h2⟩
theorem Zoe:∀ {xs ys:List AV},∀ i∈V0 xs ys,∃ x∈xs,i∈ZH x
 | [],ys,i,h=>by cases ys<;>simp[V0] at h
 | x :: xs,[],i,h=>by simp[V0] at h
 | x :: xs,y :: ys,i,h=>by
  have key:i∈V0 xs ys→∃ x'∈x :: xs,i∈ZH x':=fun h=>by
   obtain⟨x',h1,h2⟩:=Zoe i h
   exact⟨x',by simp[h1],h2⟩
  rw[ZnZ] at h
  rcases List.mem_append.1 h with h | h
  ·cases y<;>simp only[Zx4] at h<;>first | (simp at h;done) | exact⟨x,by simp,Zvr i h⟩
  ·exact key h
theorem Zy1 {C:Orc} {m:Nat→Bool} {hp:Hp} {base f:Nat} {avs:List AV} {ce:Zf} (h:Zfd C m hp base f avs=some ce) :
  ce.eff.dels=[]∧(∀ i∈ce.eff.frz,∃ a∈avs,i∈ZH a)∧(∀ i∈ce.gone,∃ o,lkp hp i=some o)∧(∀ k o,(k,o)∈ce.eff.sets→(∃ o,lkp hp k=some o)∧(k∈ce.gone∨∃ a∈avs,k∈Zez a)):=by
 unfold Zfd at h
 obtain⟨as,h1,h⟩:=Za h
 unfold ZgR at h
 split at h
 ·rename_i hc
  obtain⟨⟨r,out⟩,h2,h⟩:=Za h
  unfold ZbQ at h
  split at h
  ·cases h
  split at h
  ·cases h
  ·cases h
   obtain⟨_,_,hpres⟩:=Zex hp (XE hp) (as.flatMap ZH) [] List.nodup_nil
   have hpres' : ∀ id∈Q0 hp (XE hp) (as.flatMap ZH) [],∃ o,lkp hp id=some o:=fun id hid=>(hpres id hid).resolve_left (by simp)
   refine⟨rfl,fun i hi=>?_,fun i hi=>?_,fun k o hk=>?_⟩
   ·simp only at hi
    split at hi
    ·simp at hi
    ·exact Zoe i hi
   ·exact hpres' i (List.mem_filter.1 hi).1
   ·obtain⟨q,o0,h3,_,_⟩:=Zik _ _ _ _ _ hk
    have hk':=List.mem_of_getElem? h3
    refine⟨hpres' k hk',?_⟩
    have:=List.all_eq_true.1 hc.2.2 k hk'
    simp only[Bool.or_eq_true,List.contains_eq_mem,decide_eq_true_eq] at this
    rcases this with h4 | h4
    ·exact .inl (List.mem_filter.2 ⟨hk',h4⟩)
    ·obtain⟨y,h5,h6⟩:=List.mem_flatMap.1 h4
     exact .inr (ZsP 0 h1 y h5 k h6)
 ·cases h
theorem Zjl:∀ {l:Hp} {hp:Hp} {k:Nat} {o:Zt},(∃ o',(k,o')∈l)→lkp (Zi hp l) k=some o→(k,o)∈l
 | [],hp,k,o,h,_=>by obtain⟨o',h⟩:=h;simp at h
 | (a,x) :: r,hp,k,o,h,hl=>by
  simp only[Zi] at hl
  by_cases h1:∃ o',(k,o')∈r
  ·exact List.mem_cons_of_mem _ (Zjl h1 hl)
  ·rw[ZD r _ k fun o' ho'=>h1 ⟨o',ho'⟩,Qs] at hl
   obtain⟨o',h2⟩:=h
   rcases List.mem_cons.1 h2 with h2 | h2
   ·cases h2
    rw[if_pos rfl] at hl
    cases hl
    exact List.mem_cons_self ..
   ·exact absurd ⟨o',h2⟩ h1
theorem Zgb:∀ {l:Hp} {hp hp' : Hp} {k:Nat},(∃ o',(k,o')∈l)→lkp (Zi hp l) k=lkp (Zi hp' l) k
 | [],hp,hp',k,h=>by obtain⟨o',h⟩:=h;simp at h
 | (a,x) :: r,hp,hp',k,h=>by
  simp only[Zi]
  by_cases h1:∃ o',(k,o')∈r
  ·exact Zgb h1
  ·rw[ZD r _ k fun o' ho'=>h1 ⟨o',ho'⟩,ZD r _ k fun o' ho'=>h1 ⟨o',ho'⟩,Qs,Qs]
   obtain⟨o',h2⟩:=h
   rcases List.mem_cons.1 h2 with h2 | h2
   ·cases h2;simp
   ·exact absurd ⟨o',h2⟩ h1
theorem Zdf:∀ (l:Hp) {hp hp' : Hp} {k:Nat},lkp hp k=lkp hp' k→lkp (Zi hp l) k=lkp (Zi hp' l) k
 | [],hp,hp',k,h=>h
 | (a,x) :: r,hp,hp',k,h=>by
  simp only[Zi]
  exact Zdf r (by rw[Qs,Qs,h])
theorem Zyc {ce:Zf} {dX dY:Option Nat} {v:AV} {ax:Hp} {s:Sl×Hp} (hd:Zdk dX dY=true) (hdel:ce.eff.dels=[])
  (h1:∀ k o,(k,o)∈ax→(∀ o',(k,o')∉ce.eff.sets)∧(∀ o',(k,o')∉ce.eff.adds)∧k∉ce.eff.frz) (h2:∀ k o,(k,o)∈ax→Yw ce.gone o=o) (hv:kill ce.gone v=v) :
  Yx (Zx (ce.on dY s.1 s.2).1 dX v,Zi (ce.on dY s.1 s.2).2 ax) (ce.on dY (Zx s.1 dX v) (Zi s.2 ax)):=by
 refine⟨fun t=>?_,fun k=>?_⟩
 ·show gs (Zx (Zx (XF ce.gone s.1) dY ce.eff.val) dX v) t=gs (Zx (XF ce.gone (Zx s.1 dX v)) dY ce.eff.val) t
  simp only[QN,Q4]
  by_cases hx:dX=some t
  ·have hy:¬dY=some t:=fun e=>by rw[hx,e] at hd;simp[Zdk] at hd
   simp[hx,hy,hv]
  ·simp[hx]
 ·show lkp (Zi (ce.eff.on (Wj ce.gone s.2)) ax) k=lkp (ce.eff.on (Wj ce.gone (Zi s.2 ax))) k
  unfold Eff.on
  rw[hdel]
  simp only[Qy]
  by_cases hk:∃ o,(k,o)∈ax
  ·obtain⟨o,ho⟩:=hk
   obtain⟨g1,g2,g3⟩:=h1 k o ho
   rw[ZD _ (Zi (Qo ce.eff.frz (Wj ce.gone (Zi s.2 ax))) ce.eff.sets) k g2,ZD _ (Qo ce.eff.frz (Wj ce.gone (Zi s.2 ax))) k g1]
   rw[Qj,WH]
   rw[Zgb (hp':=s.2) ⟨o,ho⟩]
   cases hl:lkp (Zi s.2 ax) k with
   | none=>rfl
   | some o' =>
    have:=h2 k o' (Zjl ⟨o,ho⟩ hl)
    simp[this,g3]
  ·have hk' : ∀ o,(k,o)∉ax:=fun o ho=>hk ⟨o,ho⟩
   rw[ZD ax _ k hk']
   refine Zdf _ (Zdf _ ?_)
   rw[Qj,Qj,WH,WH,ZD ax _ k hk']
structure Znh (ce:Zf):Prop where
 gone:ce.gone=[]
 sets:ce.eff.sets=[]
 dels:ce.eff.dels=[]
 frz:ce.eff.frz=[]
theorem Zvs {ce:Zf} (h:Znh ce) (d:Option Nat) (s:Sl×Hp):ce.on d s.1 s.2=(Zx s.1 d ce.eff.val,Zi s.2 ce.eff.adds):=by
 unfold Zf.on Eff.on
 rw[h.gone,h.sets,h.dels,h.frz]
 rfl
theorem Zw4 {C:Orc} {M:Zu} {nx i:Nat} {o:CO} {s s' : Sl×Hp} (h:ZV C M nx i false o s=some s') :
  (Qa s.1 o.guard=some false∧s'=(Zx s.1 o.dst (.tup []),s.2)) ∨
  (Qa s.1 o.guard=some true∧∃ ce,Znh ce∧vop C M s.1 s.2 (nx+64*i) o.op=some ce∧Q7 (nx+64*i) (nx+64*i+64) ce.eff.adds=true∧s'=(Zx s.1 o.dst ce.eff.val,Zi s.2 ce.eff.adds)):=by
 unfold ZV at h
 obtain⟨b,hw,h⟩:=Za h
 cases b with
 | true=>
  simp only[if_true] at h
  obtain⟨ce,h1,h2,rfl⟩:=Xn h
  unfold UO at h1
  simp only[Bool.false_eq_true,if_false] at h1
  unfold Zgu at h1
  obtain⟨c,h3,h1⟩:=Za h1
  unfold ZiA at h1
  split at h1
  ·rename_i e1 e2 e3 e4
   cases h1
   have hq:Znh ce:=⟨e1,e2,e3,e4⟩
   exact .inr ⟨hw,ce,hq,h3,h2,Zvs hq _ s⟩
  ·cases h1
 | false=>
  simp only[Bool.false_eq_true,if_false] at h
  cases h
  exact .inl ⟨hw,rfl⟩
theorem Zkk {C:Orc} {M:Zu} {nx i:Nat} {o:CO} {s:Sl×Hp} {ce:Zf} (hw:Qa s.1 o.guard=some true) (hq:Znh ce) (hv:vop C M s.1 s.2 (nx+64*i) o.op=some ce) (hk:Q7 (nx+64*i) (nx+64*i+64) ce.eff.adds=true) :
  ZV C M nx i false o s=some (Zx s.1 o.dst ce.eff.val,Zi s.2 ce.eff.adds):=by
 unfold ZV
 rw[hw,Zj]
 simp only[if_true]
 unfold VD UO
 simp only[Bool.false_eq_true,if_false]
 rw[hv]
 simp only[Zgu,Zj,hq.gone,hq.sets,hq.dels,hq.frz,ZiA]
 rw[if_pos hk,Zvs hq _ s]
theorem Vz {C:Orc} {M:Zu} {nx i:Nat} {t:Bool} {o:CO} {s:Sl×Hp} (hw:Qa s.1 o.guard=some false):ZV C M nx i t o s=some (Zx s.1 o.dst (.tup []),s.2):=by
 unfold ZV
 rw[hw,Zj]
 rfl
theorem Zkl {sl sl' : Sl} {g:List Nat} {gd:Option (Nat×Bool)} (h:∀ q,gd=some q→gs sl' q.1=kill g (gs sl q.1)):Qa sl' gd=Qa sl gd:=by
 cases gd with
 | none=>rfl
 | some q=>
  simp only[Qa,h q rfl]
  cases gs sl q.1 with
  | d x=>rfl
  | tup vs=>cases vs<;>rfl
  | ptr a b=>simp only[kill,Z7,Qv];split<;>rfl
  | prow a b c d=>simp only[kill,Z7,Qv];split<;>rfl
  | own a=>simp only[kill,Z7,Qv];split<;>rfl
  | ownv a b c=>simp only[kill,Z7,Qv];split<;>rfl
  | sub a b=>simp only[kill,Z7,Qv];split<;>rfl
  | _=>rfl
end Go.Abs
