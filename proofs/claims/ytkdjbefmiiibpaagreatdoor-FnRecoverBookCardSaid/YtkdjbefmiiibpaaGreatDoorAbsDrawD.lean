/- The abstract semantics: calls in regions that draw,done in another order. Own text. -/
import Derived.Test.YtkdjbefmiiibpaaGreatDoorAbsDrawC
set_option linter.unusedVariables false
set_option linter.unusedSimpArgs false
namespace Go.Abs
open Go
theorem Zy9 {hp:Hp} {m:Bool} {x y:AV} (h:ZfA hp m x=some y):∀ k∈Zct y,k∈Zct x:=by
 intro k hk
 have nod:∀ {r:Option D},asD r=some y→False:=fun {r} h=>by
  obtain⟨d,_,h⟩:=Za h
  cases h;simp[Zct] at hk
 cases x<;>simp only[ZfA] at h<;>first | (exact(nod h).elim) | skip
 case d d=>cases h;simp[Zct] at hk
 case nil=>cases m<;>simp only[ZiB] at h<;>(cases h;simp[Zct] at hk)
 case nilp=>cases h;exact hk
 case nili=>cases h;exact hk
 case ptr a b=>cases h;exact hk
 case pim c=>cases h;exact hk
 case clo f c=>cases h;exact hk
 case own id=>
  cases m<;>simp only[Zhk] at h
  ·exact(nod h).elim
  ·cases h;simp[Zct] at hk
theorem ZrU {hp:Hp} {m:Nat→Bool}:∀ {xs ys:List AV} (i:Nat),args hp m i xs=some ys→∀ y∈ys,∀ k∈Zct y,∃ x∈xs,k∈Zct x
 | [],ys,i,h,y,hy,k,hk=>by simp only[args] at h;cases h;simp at hy
 | x :: xs,ys,i,h,y,hy,k,hk=>by
  simp only[args] at h
  obtain⟨a,h1,h⟩:=Za h
  obtain⟨as,h2,h⟩:=Za h
  cases h
  rcases List.mem_cons.1 hy with rfl | hy
  ·exact⟨x,by simp,Zy9 h1 k hk⟩
  ·obtain⟨x',h3,h4⟩:=ZrU (i+1) h2 y hy k hk
   exact⟨x',by simp[h3],h4⟩
theorem Zo7 {x:AV}:∀ id∈Zdk x,id∈Zp x:=by
 intro id h
 cases x<;>simp[Zdk] at h<;>simp[Zp,h]
theorem ZuC {x:AV}:∀ id∈Zg7 x,id∈ZI x:=by
 intro id h
 cases x<;>simp only[Zg7] at h<;>first | exact Zo7 id h | (simp[Zdk] at h;done) | skip
 case agg cs=>
  obtain⟨c,h1,h2⟩:=List.mem_flatMap.1 h
  exact List.mem_flatMap.2 ⟨c,h1,Zo7 id h2⟩
theorem Zny:∀ {xs ys:List AV},∀ i∈V1 xs ys,∃ x∈xs,i∈ZI x
 | [],ys,i,h=>by cases ys<;>simp[V1] at h
 | x :: xs,[],i,h=>by simp[V1] at h
 | x :: xs,y :: ys,i,h=>by
  have key:i∈V1 xs ys→∃ x'∈x :: xs,i∈ZI x':=fun h=>by
   obtain⟨x',h1,h2⟩:=Zny i h
   exact⟨x',by simp[h1],h2⟩
  rw[Zni] at h
  rcases List.mem_append.1 h with h | h
  ·cases y<;>simp only[ZxL] at h<;>first | (simp at h;done) | exact⟨x,by simp,ZuC i h⟩
  ·exact key h
theorem Zza {C:Orc} {m:Nat→Bool} {hp:Hp} {base f:Nat} {avs:List AV} {ce:Zc} (h:Zdn C m hp base f avs=some ce) :
  ce.eff.dels=[]∧(∀ i∈ce.eff.frz,∃ a∈avs,i∈ZI a)∧(∀ i∈ce.gone,∃ o,lkp hp i=some o)∧(∀ k o,(k,o)∈ce.eff.sets→(∃ o,lkp hp k=some o)∧(k∈ce.gone∨∃ a∈avs,k∈Zct a)):=by
 unfold Zdn at h
 obtain⟨as,h1,h⟩:=Za h
 unfold Zfe at h
 split at h
 ·rename_i hc
  obtain⟨⟨r,out⟩,h2,h⟩:=Za h
  unfold Za0 at h
  split at h
  ·cases h
  split at h
  ·cases h
  ·cases h
   obtain⟨_,_,hpres⟩:=Zcr hp (XO hp) (as.flatMap ZI) [] List.nodup_nil
   have hpres' : ∀ id∈Xd hp (XO hp) (as.flatMap ZI) [],∃ o,lkp hp id=some o:=fun id hid=>(hpres id hid).resolve_left (by simp)
   refine⟨rfl,fun i hi=>?_,fun i hi=>?_,fun k o hk=>?_⟩
   ·simp only at hi
    split at hi
    ·simp at hi
    ·exact Zny i hi
   ·exact hpres' i (List.mem_filter.1 hi).1
   ·obtain⟨q,o0,h3,_,_⟩:=Zhc _ _ _ _ _ hk
    have hk':=List.mem_of_getElem? h3
    refine⟨hpres' k hk',?_⟩
    have:=List.all_eq_true.1 hc.2.2 k hk'
    simp only[Bool.or_eq_true,List.contains_eq_mem,decide_eq_true_eq] at this
    rcases this with h4 | h4
    ·exact .inl (List.mem_filter.2 ⟨hk',h4⟩)
    ·obtain⟨y,h5,h6⟩:=List.mem_flatMap.1 h4
     exact .inr (ZrU 0 h1 y h5 k h6)
 ·cases h
theorem Ziv:∀ {l:Hp} {hp:Hp} {k:Nat} {o:Zo},(∃ o',(k,o')∈l)→lkp (Zg hp l) k=some o→(k,o)∈l
 | [],hp,k,o,h,_=>by obtain⟨o',h⟩:=h;simp at h
 | (a,x) :: r,hp,k,o,h,hl=>by
  simp only[Zg] at hl
  by_cases h1:∃ o',(k,o')∈r
  ·exact List.mem_cons_of_mem _ (Ziv h1 hl)
  ·rw[ZD r _ k fun o' ho'=>h1 ⟨o',ho'⟩,Qy] at hl
   obtain⟨o',h2⟩:=h
   rcases List.mem_cons.1 h2 with h2 | h2
   ·cases h2
    rw[if_pos rfl] at hl
    cases hl
    exact List.mem_cons_self ..
   ·exact absurd ⟨o',h2⟩ h1
theorem ZdY:∀ {l:Hp} {hp hp' : Hp} {k:Nat},(∃ o',(k,o')∈l)→lkp (Zg hp l) k=lkp (Zg hp' l) k
 | [],hp,hp',k,h=>by obtain⟨o',h⟩:=h;simp at h
 | (a,x) :: r,hp,hp',k,h=>by
  simp only[Zg]
  by_cases h1:∃ o',(k,o')∈r
  ·exact ZdY h1
  ·rw[ZD r _ k fun o' ho'=>h1 ⟨o',ho'⟩,ZD r _ k fun o' ho'=>h1 ⟨o',ho'⟩,Qy,Qy]
   obtain⟨o',h2⟩:=h
   rcases List.mem_cons.1 h2 with h2 | h2
   ·cases h2;simp
   ·exact absurd ⟨o',h2⟩ h1
theorem ZbG:∀ (l:Hp) {hp hp' : Hp} {k:Nat},lkp hp k=lkp hp' k→lkp (Zg hp l) k=lkp (Zg hp' l) k
 | [],hp,hp',k,h=>h
 | (a,x) :: r,hp,hp',k,h=>by
  simp only[Zg]
  exact ZbG r (by rw[Qy,Qy,h])
theorem ZxV {ce:Zc} {dX dY:Option Nat} {v:AV} {ax:Hp} {s:Sl×Hp} (hd:ZbM dX dY=true) (hdel:ce.eff.dels=[])
  (h1:∀ k o,(k,o)∈ax→(∀ o',(k,o')∉ce.eff.sets)∧(∀ o',(k,o')∉ce.eff.adds)∧k∉ce.eff.frz) (h2:∀ k o,(k,o)∈ax→YN ce.gone o=o) (hv:kill ce.gone v=v) :
  YO (Zw (ce.on dY s.1 s.2).1 dX v,Zg (ce.on dY s.1 s.2).2 ax) (ce.on dY (Zw s.1 dX v) (Zg s.2 ax)):=by
 refine⟨fun t=>?_,fun k=>?_⟩
 ·show gs (Zw (Zw (XP ce.gone s.1) dY ce.eff.val) dX v) t=gs (Zw (XP ce.gone (Zw s.1 dX v)) dY ce.eff.val) t
  simp only[QU,Xj]
  by_cases hx:dX=some t
  ·have hy:¬dY=some t:=fun e=>by rw[hx,e] at hd;simp[ZbM] at hd
   simp[hx,hy,hv]
  ·simp[hx]
 ·show lkp (Zg (ce.eff.on (Wg ce.gone s.2)) ax) k=lkp (ce.eff.on (Wg ce.gone (Zg s.2 ax))) k
  unfold Eff.on
  rw[hdel]
  simp only[QH]
  by_cases hk:∃ o,(k,o)∈ax
  ·obtain⟨o,ho⟩:=hk
   obtain⟨g1,g2,g3⟩:=h1 k o ho
   rw[ZD _ (Zg (Qu ce.eff.frz (Wg ce.gone (Zg s.2 ax))) ce.eff.sets) k g2,ZD _ (Qu ce.eff.frz (Wg ce.gone (Zg s.2 ax))) k g1]
   rw[Qm,WD]
   rw[ZdY (hp':=s.2) ⟨o,ho⟩]
   cases hl:lkp (Zg s.2 ax) k with
   | none=>rfl
   | some o' =>
    have:=h2 k o' (Ziv ⟨o,ho⟩ hl)
    simp[this,g3]
  ·have hk' : ∀ o,(k,o)∉ax:=fun o ho=>hk ⟨o,ho⟩
   rw[ZD ax _ k hk']
   refine ZbG _ (ZbG _ ?_)
   rw[Qm,Qm,WD,WD,ZD ax _ k hk']
structure Zmx (ce:Zc):Prop where
 gone:ce.gone=[]
 sets:ce.eff.sets=[]
 dels:ce.eff.dels=[]
 frz:ce.eff.frz=[]
theorem ZuD {ce:Zc} (h:Zmx ce) (d:Option Nat) (s:Sl×Hp):ce.on d s.1 s.2=(Zw s.1 d ce.eff.val,Zg s.2 ce.eff.adds):=by
 unfold Zc.on Eff.on
 rw[h.gone,h.sets,h.dels,h.frz]
 rfl
theorem Zww {C:Orc} {M:Zt} {nx i:Nat} {o:CO} {s s' : Sl×Hp} (h:ZZ C M nx i false o s=some s') :
  (Qe s.1 o.guard=some false∧s'=(Zw s.1 o.dst (.tup []),s.2)) ∨
  (Qe s.1 o.guard=some true∧∃ ce,Zmx ce∧vop C M s.1 s.2 (nx+64*i) o.op=some ce∧Xl (nx+64*i) (nx+64*i+64) ce.eff.adds=true∧s'=(Zw s.1 o.dst ce.eff.val,Zg s.2 ce.eff.adds)):=by
 unfold ZZ at h
 obtain⟨b,hw,h⟩:=Za h
 cases b with
 | true=>
  simp only[if_true] at h
  obtain⟨ce,h1,h2,rfl⟩:=Xv h
  unfold UE at h1
  simp only[Bool.false_eq_true,if_false] at h1
  unfold Zeg at h1
  obtain⟨c,h3,h1⟩:=Za h1
  unfold Zhy at h1
  split at h1
  ·rename_i e1 e2 e3 e4
   cases h1
   have hq:Zmx ce:=⟨e1,e2,e3,e4⟩
   exact .inr ⟨hw,ce,hq,h3,h2,ZuD hq _ s⟩
  ·cases h1
 | false=>
  simp only[Bool.false_eq_true,if_false] at h
  cases h
  exact .inl ⟨hw,rfl⟩
theorem Zjw {C:Orc} {M:Zt} {nx i:Nat} {o:CO} {s:Sl×Hp} {ce:Zc} (hw:Qe s.1 o.guard=some true) (hq:Zmx ce) (hv:vop C M s.1 s.2 (nx+64*i) o.op=some ce) (hk:Xl (nx+64*i) (nx+64*i+64) ce.eff.adds=true) :
  ZZ C M nx i false o s=some (Zw s.1 o.dst ce.eff.val,Zg s.2 ce.eff.adds):=by
 unfold ZZ
 rw[hw,Zf]
 simp only[if_true]
 unfold VO UE
 simp only[Bool.false_eq_true,if_false]
 rw[hv]
 simp only[Zeg,Zf,hq.gone,hq.sets,hq.dels,hq.frz,Zhy]
 rw[if_pos hk,ZuD hq _ s]
theorem VL {C:Orc} {M:Zt} {nx i:Nat} {t:Bool} {o:CO} {s:Sl×Hp} (hw:Qe s.1 o.guard=some false):ZZ C M nx i t o s=some (Zw s.1 o.dst (.tup []),s.2):=by
 unfold ZZ
 rw[hw,Zf]
 rfl
theorem Zjx {sl sl' : Sl} {g:List Nat} {gd:Option (Nat×Bool)} (h:∀ q,gd=some q→gs sl' q.1=kill g (gs sl q.1)):Qe sl' gd=Qe sl gd:=by
 cases gd with
 | none=>rfl
 | some q=>
  simp only[Qe,h q rfl]
  cases gs sl q.1 with
  | d x=>rfl
  | tup vs=>cases vs<;>rfl
  | ptr a b=>simp only[kill,Z6,Qr];split<;>rfl
  | prow a b c d=>simp only[kill,Z6,Qr];split<;>rfl
  | own a=>simp only[kill,Z6,Qr];split<;>rfl
  | ownv a b c=>simp only[kill,Z6,Qr];split<;>rfl
  | sub a b=>simp only[kill,Z6,Qr];split<;>rfl
  | bnil a b=>simp only[kill,Z6,Qr];split<;>rfl
  | _=>rfl
end Go.Abs
