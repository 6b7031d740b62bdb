/- The abstract semantics: calls in regions that draw,done in another order. Own text. -/
import Derived.Test.YtpobhkoombldlaaGreatAbsDrawC
set_option linter.unusedVariables false
set_option linter.unusedSimpArgs false
namespace Go.Abs
open Go
theorem ZyR {hp:Hp} {m:Bool} {x y:AV} (h:ZeW hp m x=some y):∀ k∈Zcy y,k∈Zcy x:=by
 intro k hk
 have nod:∀ {r:Option D},asD r=some y→False:=fun {r} h=>by
  obtain⟨d,_,h⟩:=Za h
  cases h;simp[Zcy] at hk
 cases x<;>simp only[ZeW] at h<;>first | (exact(nod h).elim) | skip
 case d d=>cases h;simp[Zcy] at hk
 case nil=>cases m<;>simp only[ZhA] at h<;>(cases h;simp[Zcy] at hk)
 case nilp=>cases h;exact hk
 case nili=>cases h;exact hk
 case ptr a b=>cases h;exact hk
 case pim c=>cases h;exact hk
 case clo f c=>cases h;exact hk
 case own id=>
  cases m<;>simp only[Zgc] at h
  ·exact(nod h).elim
  ·cases h;simp[Zcy] at hk
theorem ZsB {hp:Hp} {m:Nat→Bool}:∀ {xs ys:List AV} (i:Nat),args hp m i xs=some ys→∀ y∈ys,∀ k∈Zcy y,∃ x∈xs,k∈Zcy x
 | [],ys,i,h,y,hy,k,hk=>by simp only[args] at h;cases h;simp at hy
 | x :: xs,ys,i,h,y,hy,k,hk=>by
  simp only[args] at h
  obtain⟨a,h1,h⟩:=Za h
  obtain⟨as,h2,h⟩:=Za h
  cases h
  rcases List.mem_cons.1 hy with rfl | hy
  ·exact⟨x,by simp,ZyR h1 k hk⟩
  ·obtain⟨x',h3,h4⟩:=ZsB (i+1) h2 y hy k hk
   exact⟨x',by simp[h3],h4⟩
theorem Zpt {x:AV}:∀ id∈Zda x,id∈Zq x:=by
 intro id h
 cases x<;>simp[Zda] at h<;>simp[Zq,h]
theorem Zvg {x:AV}:∀ id∈Zf1 x,id∈ZJ x:=by
 intro id h
 cases x<;>simp only[Zf1] at h<;>first | exact Zpt id h | (simp[Zda] at h;done) | skip
 case agg cs=>
  obtain⟨c,h1,h2⟩:=List.mem_flatMap.1 h
  exact List.mem_flatMap.2 ⟨c,h1,Zpt id h2⟩
theorem ZnK:∀ {xs ys:List AV},∀ i∈VX xs ys,∃ x∈xs,i∈ZJ x
 | [],ys,i,h=>by cases ys<;>simp[VX] at h
 | x :: xs,[],i,h=>by simp[VX] at h
 | x :: xs,y :: ys,i,h=>by
  have key:i∈VX xs ys→∃ x'∈x :: xs,i∈ZJ x':=fun h=>by
   obtain⟨x',h1,h2⟩:=ZnK i h
   exact⟨x',by simp[h1],h2⟩
  rw[Znv] at h
  rcases List.mem_append.1 h with h | h
  ·cases y<;>simp only[ZxV] at h<;>first | (simp at h;done) | exact⟨x,by simp,Zvg i h⟩
  ·exact key h
theorem ZyS {C:Orc} {m:Nat→Bool} {hp:Hp} {base f:Nat} {avs:List AV} {ce:Zf} (h:Zde C m hp base f avs=some ce) :
  ce.eff.dels=[]∧(∀ i∈ce.eff.frz,∃ a∈avs,i∈ZJ a)∧(∀ i∈ce.gone,∃ o,lkp hp i=some o)∧(∀ k o,(k,o)∈ce.eff.sets→(∃ o,lkp hp k=some o)∧(k∈ce.gone∨∃ a∈avs,k∈Zcy a)):=by
 unfold Zde at h
 obtain⟨as,h1,h⟩:=Za h
 unfold Zev at h
 split at h
 ·rename_i hc
  obtain⟨⟨r,out⟩,h2,h⟩:=Za h
  unfold ZaW at h
  split at h
  ·cases h
  split at h
  ·cases h
  ·cases h
   obtain⟨_,_,hpres⟩:=Zcw hp (XL hp) (as.flatMap ZJ) [] List.nodup_nil
   have hpres' : ∀ id∈Q0 hp (XL hp) (as.flatMap ZJ) [],∃ o,lkp hp id=some o:=fun id hid=>(hpres id hid).resolve_left (by simp)
   refine⟨rfl,fun i hi=>?_,fun i hi=>?_,fun k o hk=>?_⟩
   ·simp only at hi
    split at hi
    ·simp at hi
    ·exact ZnK i hi
   ·exact hpres' i (List.mem_filter.1 hi).1
   ·obtain⟨q,o0,h3,_,_⟩:=Zf5 _ _ _ _ _ hk
    have hk':=List.mem_of_getElem? h3
    refine⟨hpres' k hk',?_⟩
    have:=List.all_eq_true.1 hc.2.2 k hk'
    simp only[Bool.or_eq_true,List.contains_eq_mem,decide_eq_true_eq] at this
    rcases this with h4 | h4
    ·exact .inl (List.mem_filter.2 ⟨hk',h4⟩)
    ·obtain⟨y,h5,h6⟩:=List.mem_flatMap.1 h4
     exact .inr (ZsB 0 h1 y h5 k h6)
 ·cases h
theorem Zhu:∀ {l:Hp} {hp:Hp} {k:Nat} {o:Zt},(∃ o',(k,o')∈l)→lkp (Zi hp l) k=some o→(k,o)∈l
 | [],hp,k,o,h,_=>by obtain⟨o',h⟩:=h;simp at h
 | (a,x) :: r,hp,k,o,h,hl=>by
  simp only[Zi] at hl
  by_cases h1:∃ o',(k,o')∈r
  ·exact List.mem_cons_of_mem _ (Zhu h1 hl)
  ·rw[ZC r _ k fun o' ho'=>h1 ⟨o',ho'⟩,Qo] at hl
   obtain⟨o',h2⟩:=h
   rcases List.mem_cons.1 h2 with h2 | h2
   ·cases h2
    rw[if_pos rfl] at hl
    cases hl
    exact List.mem_cons_self ..
   ·exact absurd ⟨o',h2⟩ h1
theorem ZdP:∀ {l:Hp} {hp hp' : Hp} {k:Nat},(∃ o',(k,o')∈l)→lkp (Zi hp l) k=lkp (Zi hp' l) k
 | [],hp,hp',k,h=>by obtain⟨o',h⟩:=h;simp at h
 | (a,x) :: r,hp,hp',k,h=>by
  simp only[Zi]
  by_cases h1:∃ o',(k,o')∈r
  ·exact ZdP h1
  ·rw[ZC r _ k fun o' ho'=>h1 ⟨o',ho'⟩,ZC r _ k fun o' ho'=>h1 ⟨o',ho'⟩,Qo,Qo]
   obtain⟨o',h2⟩:=h
   rcases List.mem_cons.1 h2 with h2 | h2
   ·cases h2;simp
   ·exact absurd ⟨o',h2⟩ h1
theorem ZbP:∀ (l:Hp) {hp hp' : Hp} {k:Nat},lkp hp k=lkp hp' k→lkp (Zi hp l) k=lkp (Zi hp' l) k
 | [],hp,hp',k,h=>h
 | (a,x) :: r,hp,hp',k,h=>by
  simp only[Zi]
  exact ZbP r (by rw[Qo,Qo,h])
theorem Zx3 {ce:Zf} {dX dY:Option Nat} {v:AV} {ax:Hp} {s:Sl×Hp} (hd:ZbU dX dY=true) (hdel:ce.eff.dels=[])
  (h1:∀ k o,(k,o)∈ax→(∀ o',(k,o')∉ce.eff.sets)∧(∀ o',(k,o')∉ce.eff.adds)∧k∉ce.eff.frz) (h2:∀ k o,(k,o)∈ax→YB ce.gone o=o) (hv:kill ce.gone v=v) :
  YC (Zw (ce.on dY s.1 s.2).1 dX v,Zi (ce.on dY s.1 s.2).2 ax) (ce.on dY (Zw s.1 dX v) (Zi s.2 ax)):=by
 refine⟨fun t=>?_,fun k=>?_⟩
 ·show gs (Zw (Zw (XM ce.gone s.1) dY ce.eff.val) dX v) t=gs (Zw (XM ce.gone (Zw s.1 dX v)) dY ce.eff.val) t
  simp only[QN,Q5]
  by_cases hx:dX=some t
  ·have hy:¬dY=some t:=fun e=>by rw[hx,e] at hd;simp[ZbU] at hd
   simp[hx,hy,hv]
  ·simp[hx]
 ·show lkp (Zi (ce.eff.on (Wj ce.gone s.2)) ax) k=lkp (ce.eff.on (Wj ce.gone (Zi s.2 ax))) k
  unfold Eff.on
  rw[hdel]
  simp only[Qv]
  by_cases hk:∃ o,(k,o)∈ax
  ·obtain⟨o,ho⟩:=hk
   obtain⟨g1,g2,g3⟩:=h1 k o ho
   rw[ZC _ (Zi (Ql ce.eff.frz (Wj ce.gone (Zi s.2 ax))) ce.eff.sets) k g2,ZC _ (Ql ce.eff.frz (Wj ce.gone (Zi s.2 ax))) k g1]
   rw[Qj,WE]
   rw[ZdP (hp':=s.2) ⟨o,ho⟩]
   cases hl:lkp (Zi s.2 ax) k with
   | none=>rfl
   | some o' =>
    have:=h2 k o' (Zhu ⟨o,ho⟩ hl)
    simp[this,g3]
  ·have hk' : ∀ o,(k,o)∉ax:=fun o ho=>hk ⟨o,ho⟩
   rw[ZC ax _ k hk']
   refine ZbP _ (ZbP _ ?_)
   rw[Qj,Qj,WE,WE,ZC ax _ k hk']
structure ZmJ (ce:Zf):Prop where
 gone:ce.gone=[]
 sets:ce.eff.sets=[]
 dels:ce.eff.dels=[]
 frz:ce.eff.frz=[]
theorem Zvh {ce:Zf} (h:ZmJ ce) (d:Option Nat) (s:Sl×Hp):ce.on d s.1 s.2=(Zw s.1 d ce.eff.val,Zi s.2 ce.eff.adds):=by
 unfold Zf.on Eff.on
 rw[h.gone,h.sets,h.dels,h.frz]
 rfl
theorem ZwV {C:Orc} {M:Zu} {nx i:Nat} {o:CO} {s s' : Sl×Hp} (h:ZX C M nx i false o s=some s') :
  (Qc s.1 o.guard=some false∧s'=(Zw s.1 o.dst (.tup []),s.2)) ∨
  (Qc s.1 o.guard=some true∧∃ ce,ZmJ ce∧vop C M s.1 s.2 (nx+64*i) o.op=some ce∧Q8 (nx+64*i) (nx+64*i+64) ce.eff.adds=true∧s'=(Zw s.1 o.dst ce.eff.val,Zi s.2 ce.eff.adds)):=by
 unfold ZX at h
 obtain⟨b,hw,h⟩:=Za h
 cases b with
 | true=>
  simp only[if_true] at h
  obtain⟨ce,h1,h2,rfl⟩:=Xq h
  unfold UD at h1
  simp only[Bool.false_eq_true,if_false] at h1
  unfold Zd8 at h1
  obtain⟨c,h3,h1⟩:=Za h1
  unfold Zgm at h1
  split at h1
  ·rename_i e1 e2 e3 e4
   cases h1
   have hq:ZmJ ce:=⟨e1,e2,e3,e4⟩
   exact .inr ⟨hw,ce,hq,h3,h2,Zvh hq _ s⟩
  ·cases h1
 | false=>
  simp only[Bool.false_eq_true,if_false] at h
  cases h
  exact .inl ⟨hw,rfl⟩
theorem ZiX {C:Orc} {M:Zu} {nx i:Nat} {o:CO} {s:Sl×Hp} {ce:Zf} (hw:Qc s.1 o.guard=some true) (hq:ZmJ ce) (hv:vop C M s.1 s.2 (nx+64*i) o.op=some ce) (hk:Q8 (nx+64*i) (nx+64*i+64) ce.eff.adds=true) :
  ZX C M nx i false o s=some (Zw s.1 o.dst ce.eff.val,Zi s.2 ce.eff.adds):=by
 unfold ZX
 rw[hw,Zj]
 simp only[if_true]
 unfold Vz UD
 simp only[Bool.false_eq_true,if_false]
 rw[hv]
 simp only[Zd8,Zj,hq.gone,hq.sets,hq.dels,hq.frz,Zgm]
 rw[if_pos hk,Zvh hq _ s]
theorem Vw {C:Orc} {M:Zu} {nx i:Nat} {t:Bool} {o:CO} {s:Sl×Hp} (hw:Qc s.1 o.guard=some false):ZX C M nx i t o s=some (Zw s.1 o.dst (.tup []),s.2):=by
 unfold ZX
 rw[hw,Zj]
 rfl
theorem ZiY {sl sl' : Sl} {g:List Nat} {gd:Option (Nat×Bool)} (h:∀ q,gd=some q→gs sl' q.1=kill g (gs sl q.1)):Qc sl' gd=Qc sl gd:=by
 cases gd with
 | none=>rfl
 | some q=>
  simp only[Qc,h q rfl]
  cases gs sl q.1 with
  | d x=>rfl
  | tup vs=>cases vs<;>rfl
  | ptr a b=>simp only[kill,Z9,Qr];split<;>rfl
  | prow a b c d=>simp only[kill,Z9,Qr];split<;>rfl
  | own a=>simp only[kill,Z9,Qr];split<;>rfl
  | ownv a b c=>simp only[kill,Z9,Qr];split<;>rfl
  | sub a b=>simp only[kill,Z9,Qr];split<;>rfl
  | _=>rfl
end Go.Abs
