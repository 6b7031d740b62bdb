/- The abstract semantics: calls in regions that draw,done in another order. Own text. -/
import Derived.Test.YtkdjbefmiiibpaaGreatDoorAbsDrawC
set_option linter.unusedVariables false
set_option linter.unusedSimpArgs false
namespace Go.Abs
open Go
theorem ZvX {hp:Hp} {m:Bool} {x y:AV} (h:ZcY hp m x=some y):∀ k∈ZaV y,k∈ZaV x:=by
 intro k hk
 have nod:∀ {r:Option D},asD r=some y→False:=fun {r} h=>by
  obtain⟨d,_,h⟩:=Za h
  cases h;simp[ZaV] at hk
 cases x<;>simp only[ZcY] at h<;>first | (exact(nod h).elim) | skip
 case d d=>cases h;simp[ZaV] at hk
 case nil=>cases m<;>simp only[Zfm] at h<;>(cases h;simp[ZaV] at hk)
 case nilp=>cases h;exact hk
 case nili=>cases h;exact hk
 case ptr a b=>cases h;exact hk
 case pim c=>cases h;exact hk
 case clo f c=>cases h;exact hk
 case own id=>
  cases m<;>simp only[Zed] at h
  ·exact(nod h).elim
  ·cases h;simp[ZaV] at hk
theorem ZoS {hp:Hp} {m:Nat→Bool}:∀ {xs ys:List AV} (i:Nat),args hp m i xs=some ys→∀ y∈ys,∀ k∈ZaV y,∃ x∈xs,k∈ZaV x
 | [],ys,i,h,y,hy,k,hk=>by simp only[args] at h;cases h;simp at hy
 | x :: xs,ys,i,h,y,hy,k,hk=>by
  simp only[args] at h
  obtain⟨a,h1,h⟩:=Za h
  obtain⟨as,h2,h⟩:=Za h
  cases h
  rcases List.mem_cons.1 hy with rfl | hy
  ·exact⟨x,by simp,ZvX h1 k hk⟩
  ·obtain⟨x',h3,h4⟩:=ZoS (i+1) h2 y hy k hk
   exact⟨x',by simp[h3],h4⟩
theorem Zmh {x:AV}:∀ id∈Zbh x,id∈Zm x:=by
 intro id h
 cases x<;>simp[Zbh] at h<;>simp[Zm,h]
theorem Zr3 {x:AV}:∀ id∈Zd2 x,id∈ZF x:=by
 intro id h
 cases x<;>simp only[Zd2] at h<;>first | exact Zmh id h | (simp[Zbh] at h;done) | skip
 case agg cs=>
  obtain⟨c,h1,h2⟩:=List.mem_flatMap.1 h
  exact List.mem_flatMap.2 ⟨c,h1,Zmh id h2⟩
theorem ZjU:∀ {xs ys:List AV},∀ i∈Vc xs ys,∃ x∈xs,i∈ZF x
 | [],ys,i,h=>by cases ys<;>simp[Vc] at h
 | x :: xs,[],i,h=>by simp[Vc] at h
 | x :: xs,y :: ys,i,h=>by
  have key:i∈Vc xs ys→∃ x'∈x :: xs,i∈ZF x':=fun h=>by
   obtain⟨x',h1,h2⟩:=ZjU i h
   exact⟨x',by simp[h1],h2⟩
  rw[ZjE] at h
  rcases List.mem_append.1 h with h | h
  ·cases y<;>simp only[Zuz] at h<;>first | (simp at h;done) | exact⟨x,by simp,Zr3 i h⟩
  ·exact key h
theorem ZvY {C:Orc} {m:Nat→Bool} {hp:Hp} {base f:Nat} {avs:List AV} {ce:Zb} (h:Zbk C m hp base f avs=some ce) :
  ce.eff.dels=[]∧(∀ i∈ce.eff.frz,∃ a∈avs,i∈ZF a)∧(∀ i∈ce.gone,∃ o,lkp hp i=some o)∧(∀ k o,(k,o)∈ce.eff.sets→(∃ o,lkp hp k=some o)∧(k∈ce.gone∨∃ a∈avs,k∈ZaV a)):=by
 unfold Zbk at h
 obtain⟨as,h1,h⟩:=Za h
 unfold ZcA at h
 split at h
 ·rename_i hc
  obtain⟨⟨r,out⟩,h2,h⟩:=Za h
  unfold JY at h
  split at h
  ·cases h
  split at h
  ·cases h
  ·cases h
   obtain⟨_,_,hpres⟩:=ZaT hp (Xz hp) (as.flatMap ZF) [] List.nodup_nil
   have hpres' : ∀ id∈QX hp (Xz hp) (as.flatMap ZF) [],∃ o,lkp hp id=some o:=fun id hid=>(hpres id hid).resolve_left (by simp)
   refine⟨rfl,fun i hi=>?_,fun i hi=>?_,fun k o hk=>?_⟩
   ·simp only at hi
    split at hi
    ·simp at hi
    ·exact ZjU i hi
   ·exact hpres' i (List.mem_filter.1 hi).1
   ·obtain⟨q,o0,h3,_,_⟩:=Zd7 _ _ _ _ _ hk
    have hk':=List.mem_of_getElem? h3
    refine⟨hpres' k hk',?_⟩
    have:=List.all_eq_true.1 hc.2.2 k hk'
    simp only[Bool.or_eq_true,List.contains_eq_mem,decide_eq_true_eq] at this
    rcases this with h4 | h4
    ·exact .inl (List.mem_filter.2 ⟨hk',h4⟩)
    ·obtain⟨y,h5,h6⟩:=List.mem_flatMap.1 h4
     exact .inr (ZoS 0 h1 y h5 k h6)
 ·cases h
theorem Zfg:∀ {l:Hp} {hp:Hp} {k:Nat} {o:Zl},(∃ o',(k,o')∈l)→lkp (Zf hp l) k=some o→(k,o)∈l
 | [],hp,k,o,h,_=>by obtain⟨o',h⟩:=h;simp at h
 | (a,x) :: r,hp,k,o,h,hl=>by
  simp only[Zf] at hl
  by_cases h1:∃ o',(k,o')∈r
  ·exact List.mem_cons_of_mem _ (Zfg h1 hl)
  ·rw[Zz r _ k fun o' ho'=>h1 ⟨o',ho'⟩,Qs] at hl
   obtain⟨o',h2⟩:=h
   rcases List.mem_cons.1 h2 with h2 | h2
   ·cases h2
    rw[if_pos rfl] at hl
    cases hl
    exact List.mem_cons_self ..
   ·exact absurd ⟨o',h2⟩ h1
theorem Zb6:∀ {l:Hp} {hp hp' : Hp} {k:Nat},(∃ o',(k,o')∈l)→lkp (Zf hp l) k=lkp (Zf hp' l) k
 | [],hp,hp',k,h=>by obtain⟨o',h⟩:=h;simp at h
 | (a,x) :: r,hp,hp',k,h=>by
  simp only[Zf]
  by_cases h1:∃ o',(k,o')∈r
  ·exact Zb6 h1
  ·rw[Zz r _ k fun o' ho'=>h1 ⟨o',ho'⟩,Zz r _ k fun o' ho'=>h1 ⟨o',ho'⟩,Qs,Qs]
   obtain⟨o',h2⟩:=h
   rcases List.mem_cons.1 h2 with h2 | h2
   ·cases h2;simp
   ·exact absurd ⟨o',h2⟩ h1
theorem Zan:∀ (l:Hp) {hp hp' : Hp} {k:Nat},lkp hp k=lkp hp' k→lkp (Zf hp l) k=lkp (Zf hp' l) k
 | [],hp,hp',k,h=>h
 | (a,x) :: r,hp,hp',k,h=>by
  simp only[Zf]
  exact Zan r (by rw[Qs,Qs,h])
theorem ZuJ {ce:Zb} {dX dY:Option Nat} {v:AV} {ax:Hp} {s:Sl×Hp} (hd:Zas dX dY=true) (hdel:ce.eff.dels=[])
  (h1:∀ k o,(k,o)∈ax→(∀ o',(k,o')∉ce.eff.sets)∧(∀ o',(k,o')∉ce.eff.adds)∧k∉ce.eff.frz) (h2:∀ k o,(k,o)∈ax→X8 ce.gone o=o) (hv:kill ce.gone v=v) :
  X9 (Zs (ce.on dY s.1 s.2).1 dX v,Zf (ce.on dY s.1 s.2).2 ax) (ce.on dY (Zs s.1 dX v) (Zf s.2 ax)):=by
 refine⟨fun t=>?_,fun k=>?_⟩
 ·show gs (Zs (Zs (XA ce.gone s.1) dY ce.eff.val) dX v) t=gs (Zs (XA ce.gone (Zs s.1 dX v)) dY ce.eff.val) t
  simp only[QI,Q2]
  by_cases hx:dX=some t
  ·have hy:¬dY=some t:=fun e=>by rw[hx,e] at hd;simp[Zas] at hd
   simp[hx,hy,hv]
  ·simp[hx]
 ·show lkp (Zf (ce.eff.on (Vf ce.gone s.2)) ax) k=lkp (ce.eff.on (Vf ce.gone (Zf s.2 ax))) k
  unfold Eff.on
  rw[hdel]
  simp only[Qz]
  by_cases hk:∃ o,(k,o)∈ax
  ·obtain⟨o,ho⟩:=hk
   obtain⟨g1,g2,g3⟩:=h1 k o ho
   rw[Zz _ (Zf (Qq ce.eff.frz (Vf ce.gone (Zf s.2 ax))) ce.eff.sets) k g2,Zz _ (Qq ce.eff.frz (Vf ce.gone (Zf s.2 ax))) k g1]
   rw[Qi,VC]
   rw[Zb6 (hp':=s.2) ⟨o,ho⟩]
   cases hl:lkp (Zf s.2 ax) k with
   | none=>rfl
   | some o' =>
    have:=h2 k o' (Zfg ⟨o,ho⟩ hl)
    simp[this,g3]
  ·have hk' : ∀ o,(k,o)∉ax:=fun o ho=>hk ⟨o,ho⟩
   rw[Zz ax _ k hk']
   refine Zan _ (Zan _ ?_)
   rw[Qi,Qi,VC,VC,Zz ax _ k hk']
structure Zi5 (ce:Zb):Prop where
 gone:ce.gone=[]
 sets:ce.eff.sets=[]
 dels:ce.eff.dels=[]
 frz:ce.eff.frz=[]
theorem Zr4 {ce:Zb} (h:Zi5 ce) (d:Option Nat) (s:Sl×Hp):ce.on d s.1 s.2=(Zs s.1 d ce.eff.val,Zf s.2 ce.eff.adds):=by
 unfold Zb.on Eff.on
 rw[h.gone,h.sets,h.dels,h.frz]
 rfl
theorem ZtF {C:Orc} {M:Zo} {nx i:Nat} {o:CO} {s s' : Sl×Hp} (h:ZT C M nx i false o s=some s') :
  (Z9 s.1 o.guard=some false∧s'=(Zs s.1 o.dst (.tup []),s.2)) ∨
  (Z9 s.1 o.guard=some true∧∃ ce,Zi5 ce∧vop C M s.1 s.2 (nx+64*i) o.op=some ce∧Q7 (nx+64*i) (nx+64*i+64) ce.eff.adds=true∧s'=(Zs s.1 o.dst ce.eff.val,Zf s.2 ce.eff.adds)):=by
 unfold ZT at h
 obtain⟨b,hw,h⟩:=Za h
 cases b with
 | true=>
  simp only[if_true] at h
  obtain⟨ce,h1,h2,rfl⟩:=Xf h
  unfold Wz at h1
  simp only[Bool.false_eq_true,if_false] at h1
  unfold Zco at h1
  obtain⟨c,h3,h1⟩:=Za h1
  unfold Zeq at h1
  split at h1
  ·rename_i e1 e2 e3 e4
   cases h1
   have hq:Zi5 ce:=⟨e1,e2,e3,e4⟩
   exact .inr ⟨hw,ce,hq,h3,h2,Zr4 hq _ s⟩
  ·cases h1
 | false=>
  simp only[Bool.false_eq_true,if_false] at h
  cases h
  exact .inl ⟨hw,rfl⟩
theorem ZfT {C:Orc} {M:Zo} {nx i:Nat} {o:CO} {s:Sl×Hp} {ce:Zb} (hw:Z9 s.1 o.guard=some true) (hq:Zi5 ce) (hv:vop C M s.1 s.2 (nx+64*i) o.op=some ce) (hk:Q7 (nx+64*i) (nx+64*i+64) ce.eff.adds=true) :
  ZT C M nx i false o s=some (Zs s.1 o.dst ce.eff.val,Zf s.2 ce.eff.adds):=by
 unfold ZT
 rw[hw,Ze]
 simp only[if_true]
 unfold Y1 Wz
 simp only[Bool.false_eq_true,if_false]
 rw[hv]
 simp only[Zco,Ze,hq.gone,hq.sets,hq.dels,hq.frz,Zeq]
 rw[if_pos hk,Zr4 hq _ s]
theorem YZ {C:Orc} {M:Zo} {nx i:Nat} {t:Bool} {o:CO} {s:Sl×Hp} (hw:Z9 s.1 o.guard=some false):ZT C M nx i t o s=some (Zs s.1 o.dst (.tup []),s.2):=by
 unfold ZT
 rw[hw,Ze]
 rfl
theorem ZfU {sl sl' : Sl} {g:List Nat} {gd:Option (Nat×Bool)} (h:∀ q,gd=some q→gs sl' q.1=kill g (gs sl q.1)):Z9 sl' gd=Z9 sl gd:=by
 cases gd with
 | none=>rfl
 | some q=>
  simp only[Z9,h q rfl]
  cases gs sl q.1 with
  | d x=>rfl
  | tup vs=>cases vs<;>rfl
  | ptr a b=>simp only[kill,Z0,Qk];split<;>rfl
  | prow a b c d=>simp only[kill,Z0,Qk];split<;>rfl
  | own a=>simp only[kill,Z0,Qk];split<;>rfl
  | ownv a b c=>simp only[kill,Z0,Qk];split<;>rfl
  | sub a b=>simp only[kill,Z0,Qk];split<;>rfl
  | bnil a b=>simp only[kill,Z0,Qk];split<;>rfl
  | _=>rfl
end Go.Abs
