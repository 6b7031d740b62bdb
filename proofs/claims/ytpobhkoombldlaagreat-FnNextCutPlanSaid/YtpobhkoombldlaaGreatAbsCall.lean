/- The abstract semantics and the model: names told anew,objects handed over. Own text. -/
import Derived.Test.YtpobhkoombldlaaGreatAbsStep8
set_option linter.unusedVariables false
set_option linter.unusedSimpArgs false
namespace Go.Abs
open Go
section
variable {Γ Γ' : Gh} {w w' : World} {I I' : Nat→Prop}
def AV.small:AV→Bool
 | .d _=>false
 | .agg _=>false
 | .tup _=>false
 | .clo _ _=>false
 | _=>true
theorem Jw {x:AV} (hs:x.small=true) (v:Value):(Rep Γ w I x v=Wn Γ w I x v)∧(ZbU Γ w I x v=Wn Γ w I x v)∧(Vp Γ w I x v=Wn Γ w I x v):=by
 cases x<;>first | exact⟨rfl,rfl,rfl⟩ | cases hs
theorem Vy {x:AV} (hs:x.small=true) (g:Nat→Nat) (bad:List Nat) :
  ren g x=Zi9 g x∧Zja g x=Zi9 g x∧kill bad x=Qv bad x∧Z7 bad x=Qv bad x∧ZH x=Zq x∧ZI x=Zq x:=by
 cases x<;>first | exact⟨rfl,rfl,rfl,rfl,rfl,rfl⟩ | cases hs
def ZdH (Γ Γ' : Gh) (g:Nat→Nat) (ids:List Nat):Prop:=∀ id∈ids,∀ r,Γ id=some r→Γ' (g id)=some r
theorem ZlZ {g:Nat→Nat} {x:AV} {v:Value} (hg:ZdH Γ Γ' g (Zq x)) (hk:ZW I I' w w') (h:Wn Γ w I x v):Wn Γ' w' I' (Zi9 g x) v:=by
 cases x with
 | d x=>exact⟨h.1,h.2.mono hk⟩
 | nil=>exact h
 | nilp=>exact h
 | nili=>exact h
 | ptr id off=>obtain⟨b,h1,h2⟩:=h;exact⟨b,hg id (by simp[Zq]) _ h1,h2⟩
 | prow id sz i off=>obtain⟨b,n,c,h1,h2⟩:=h;exact⟨b,n,c,hg id (by simp[Zq]) _ h1,h2⟩
 | pim cs=>obtain⟨b,o,vs,h1,h2,h3,h4⟩:=h;exact⟨b,o,vs,h1,hk.sub b h2,h3.mono (hk.blk b h2),h4.mono hk⟩
 | own id=>obtain⟨a,n,c,sz,h1,h2⟩:=h;exact⟨a,n,c,sz,hg id (by simp[Zq]) _ h1,h2⟩
 | ownv id off n=>obtain⟨a0,m,c,sz,a,h1,h2⟩:=h;exact⟨a0,m,c,sz,a,hg id (by simp[Zq]) _ h1,h2⟩
 | sub id nm=>obtain⟨⟨r,h0⟩,a,n,c,sz,h1,h2⟩:=h;exact⟨⟨r,hg id (by simp[Zq]) _ h0⟩,a,n,c,sz,hg nm (by simp[Zq]) _ h1,h2⟩
 | agg cs=>exact h.elim
 | tup cs=>exact h.elim
 | clo f cs=>exact h.elim
 | junk=>exact trivial
theorem Zl0 {g:Nat→Nat}:∀ {xs:List AV} {vs:List Value},ZdH Γ Γ' g (xs.flatMap Zq)→ZW I I' w w'→ZC (Wn Γ w I) xs vs→ZC (Wn Γ' w' I') (xs.map (Zi9 g)) vs
 | [],[],_,_,_=>trivial
 | [],_ :: _,_,_,h=>h.elim
 | _ :: _,[],_,_,h=>h.elim
 | x :: xs,v :: vs,hg,hk,h=>⟨ZlZ (fun id hid=>hg id (by simp[hid])) hk h.1,Zl0 (fun id hid=>hg id (by simp only[List.flatMap_cons,List.mem_append];exact .inr hid)) hk h.2⟩
theorem ZzM {g:Nat→Nat} {x:AV} {v:Value} (hg:ZdH Γ Γ' g (ZI x)) (hk:ZW I I' w w') (h:Vp Γ w I x v):Vp Γ' w' I' (Zja g x) v:=by
 by_cases hs:x.small=true
 ·rw[(Vy hs g []).2.2.2.2.2] at hg
  rw[(Jw hs v).2.2] at h
  rw[(Vy hs g []).2.1]
  exact(ZlZ hg hk h).repB
 ·cases x with
  | clo f cs=>obtain⟨us,h1,h2⟩:=h;exact⟨us,h1,Zl0 hg hk h2⟩
  | agg cs=>exact h.elim
  | tup cs=>exact h.elim
  | d x=>exact⟨h.1,h.2.mono hk⟩
  | _=>exact absurd rfl hs
theorem Zpp {g:Nat→Nat} {x:AV} {v:Value} (hg:ZdH Γ Γ' g (ZI x)) (hk:ZW I I' w w') (h:ZbU Γ w I x v):ZbU Γ' w' I' (Zja g x) v:=by
 by_cases hs:x.small=true
 ·rw[(Vy hs g []).2.2.2.2.2] at hg
  rw[(Jw hs v).2.1] at h
  rw[(Vy hs g []).2.1]
  exact(ZlZ hg hk h).rep2
 ·cases x with
  | clo f cs=>obtain⟨us,h1,h2⟩:=h;exact⟨us,h1,Zl0 hg hk h2⟩
  | agg cs=>obtain⟨us,h1,h2⟩:=h;exact⟨us,h1,Zl0 hg hk h2⟩
  | tup cs=>exact h.elim
  | d x=>exact Zub.2 ((Zub.1 h).mono hk)
  | _=>exact absurd rfl hs
theorem ZsC {g:Nat→Nat}:∀ {xs:List AV} {vs:List Value},ZdH Γ Γ' g (xs.flatMap ZI)→ZW I I' w w'→ZC (ZbU Γ w I) xs vs→ZC (ZbU Γ' w' I') (xs.map (Zja g)) vs
 | [],[],_,_,_=>trivial
 | [],_ :: _,_,_,h=>h.elim
 | _ :: _,[],_,_,h=>h.elim
 | x :: xs,v :: vs,hg,hk,h=>⟨Zpp (fun id hid=>hg id (by simp only[List.flatMap_cons,List.mem_append];exact .inl hid)) hk h.1,ZsC (fun id hid=>hg id (by simp only[List.flatMap_cons,List.mem_append];exact .inr hid)) hk h.2⟩
theorem ZhD {g:Nat→Nat}:∀ {xs:List AV} {vs:List Value},ZdH Γ Γ' g (xs.flatMap ZI)→ZW I I' w w'→ZC (Vp Γ w I) xs vs→ZC (Vp Γ' w' I') (xs.map (Zja g)) vs
 | [],[],_,_,_=>trivial
 | [],_ :: _,_,_,h=>h.elim
 | _ :: _,[],_,_,h=>h.elim
 | x :: xs,v :: vs,hg,hk,h=>⟨ZzM (fun id hid=>hg id (by simp only[List.flatMap_cons,List.mem_append];exact .inl hid)) hk h.1,ZhD (fun id hid=>hg id (by simp only[List.flatMap_cons,List.mem_append];exact .inr hid)) hk h.2⟩
theorem Zpd {g:Nat→Nat} {x:AV} {v:Value} (hg:ZdH Γ Γ' g (ZH x)) (hk:ZW I I' w w') (h:Rep Γ w I x v):Rep Γ' w' I' (ren g x) v:=by
 by_cases hs:x.small=true
 ·rw[(Vy hs g []).2.2.2.2.1] at hg
  rw[(Jw hs v).1] at h
  rw[(Vy hs g []).1]
  exact(ZlZ hg hk h).rep2.rep
 ·cases x with
  | tup vs=>obtain⟨us,h1,h2⟩:=h;exact⟨us,h1,ZsC hg hk h2⟩
  | clo f cs=>exact Zpp (g:=g) (x:=.clo f cs) hg hk h
  | agg cs=>exact Zpp (g:=g) (x:=.agg cs) hg hk h
  | d x=>exact YK.2 ((YK.1 h).mono hk)
  | _=>exact absurd rfl hs
theorem Zke {bad:List Nat} {x:AV} {v:Value} (h:Wn Γ w I x v):Wn Γ w I (Qv bad x) v:=by
 cases x<;>simp only[Qv]<;>first | exact h | (split<;>first | exact trivial | exact h)
theorem Zm8 {bad:List Nat} {xs:List AV} {vs:List Value} (h:ZC (Wn Γ w I) xs vs):ZC (Wn Γ w I) (xs.map (Qv bad)) vs:=h.map_left fun _ _ h=>Zke h
theorem Zm9 {bad:List Nat} {x:AV} {v:Value} (h:Vp Γ w I x v):Vp Γ w I (Z7 bad x) v:=by
 by_cases hs:x.small=true
 ·rw[(Jw hs v).2.2] at h
  rw[(Vy hs id bad).2.2.2.1]
  exact(Zke h).repB
 ·cases x with
  | clo f cs=>obtain⟨us,h1,h2⟩:=h;exact⟨us,h1,Zm8 h2⟩
  | agg cs=>exact h.elim
  | tup cs=>exact h.elim
  | d x=>exact h
  | _=>exact absurd rfl hs
theorem Zna {bad:List Nat} {x:AV} {v:Value} (h:ZbU Γ w I x v):ZbU Γ w I (Z7 bad x) v:=by
 by_cases hs:x.small=true
 ·rw[(Jw hs v).2.1] at h
  rw[(Vy hs id bad).2.2.2.1]
  exact(Zke h).rep2
 ·cases x with
  | clo f cs=>obtain⟨us,h1,h2⟩:=h;exact⟨us,h1,Zm8 h2⟩
  | agg cs=>obtain⟨us,h1,h2⟩:=h;exact⟨us,h1,Zm8 h2⟩
  | tup cs=>exact h.elim
  | d x=>exact h
  | _=>exact absurd rfl hs
theorem Zu0 {bad:List Nat} {x:AV} {v:Value} (h:Rep Γ w I x v):Rep Γ w I (kill bad x) v:=by
 by_cases hs:x.small=true
 ·rw[(Jw hs v).1] at h
  rw[(Vy hs id bad).2.2.1]
  exact(Zke h).rep2.rep
 ·cases x with
  | tup vs=>obtain⟨us,h1,h2⟩:=h;exact⟨us,h1,h2.map_left fun _ _ h=>Zna h⟩
  | clo f cs=>exact(Zna (bad:=bad) (x:=.clo f cs) h).rep
  | agg cs=>exact(Zna (bad:=bad) (x:=.agg cs) h).rep
  | d x=>exact h
  | _=>exact absurd rfl hs
theorem Zlj (bad:List Nat) (x:AV):∀ id∈Zq (Qv bad x),id∈Zq x∧id∉bad:=by
 intro id hid
 cases x<;>simp only[Qv] at hid<;>first
  | (simp[Zq] at hid;done)
  | (split at hid
     ·simp [Zq] at hid
     ·rename_i hb;simp[Zq] at hid hb ⊢;first | (subst hid;simpa using hb) | (rcases hid with rfl | rfl<;>simp[hb]))
theorem Zih (bad:List Nat) (xs:List AV):∀ id∈(xs.map (Qv bad)).flatMap Zq,id∈xs.flatMap Zq∧id∉bad:=by
 intro id hid
 obtain⟨y,hy,hid⟩:=List.mem_flatMap.1 hid
 obtain⟨x,hx,rfl⟩:=List.mem_map.1 hy
 obtain⟨h1,h2⟩:=Zlj bad x id hid
 exact⟨List.mem_flatMap.2 ⟨x,hx,h1⟩,h2⟩
theorem Zii (bad:List Nat) (x:AV):∀ id∈ZI (Z7 bad x),id∈ZI x∧id∉bad:=by
 intro id hid
 by_cases hs:x.small=true
 ·rw[(Vy hs (fun k=>k) bad).2.2.2.1] at hid
  have hs' : ZI (Qv bad x)=Zq (Qv bad x):=by
   cases x<;>simp only[Qv]<;>first | rfl | (split<;>rfl) | (cases hs)
  rw[hs'] at hid
  rw[(Vy hs (fun k=>k) bad).2.2.2.2.2]
  exact Zlj bad x id hid
 ·cases x with
  | agg cs=>exact Zih bad cs id hid
  | clo f cs=>exact Zih bad cs id hid
  | tup cs=>simp[Z7,Qv,ZI,Zq] at hid
  | d x=>simp[Z7,Qv,ZI,Zq] at hid
  | _=>exact absurd rfl hs
theorem Znb (bad:List Nat) (x:AV):∀ id∈ZH (kill bad x),id∈ZH x∧id∉bad:=by
 intro id hid
 by_cases hs:x.small=true
 ·rw[(Vy hs (fun k=>k) bad).2.2.1] at hid
  have hs' : ZH (Qv bad x)=Zq (Qv bad x):=by
   cases x<;>simp only[Qv]<;>first | rfl | (split<;>rfl) | (cases hs)
  rw[hs'] at hid
  rw[(Vy hs (fun k=>k) bad).2.2.2.2.1]
  exact Zlj bad x id hid
 ·cases x with
  | tup vs=>
   obtain⟨y,hy,hid⟩:=List.mem_flatMap.1 hid
   obtain⟨x,hx,rfl⟩:=List.mem_map.1 hy
   obtain⟨h1,h2⟩:=Zii bad x id hid
   exact⟨List.mem_flatMap.2 ⟨x,hx,h1⟩,h2⟩
  | agg cs=>exact Zih bad cs id hid
  | clo f cs=>exact Zih bad cs id hid
  | d x=>simp[kill,Z7,Qv,ZH,ZI,Zq] at hid
  | _=>exact absurd rfl hs
end
theorem Zex (hp:Hp):∀ (n:Nat) (todo acc:List Nat),acc.Nodup→(Q0 hp n todo acc).Nodup∧(∀ id∈acc,id∈Q0 hp n todo acc)∧(∀ id∈Q0 hp n todo acc,id∈acc∨∃ o,lkp hp id=some o)
 | 0,todo,acc,h=>by simp only[Q0];exact⟨h,fun _ h=>h,fun _ h=>.inl h⟩
 | n+1,[],acc,h=>by simp only[Q0];exact⟨h,fun _ h=>h,fun _ h=>.inl h⟩
 | n+1,id :: todo,acc,h=>by
  simp only[Q0]
  split
  ·exact Zex hp n todo acc h
  ·rename_i hc
   cases hl:lkp hp id with
   | none=>simp only[ZbO];exact Zex hp n todo acc h
   | some o=>
    simp only[ZbO]
    have hnd:(acc++[id]).Nodup:=by
     rw[List.nodup_append]
     refine⟨h,by simp,?_⟩
     intro a ha b hb
     simp at hb
     subst hb
     intro e
     subst e
     simp at hc
     exact hc ha
    obtain⟨h1,h2,h3⟩:=Zex hp n (todo++Zew o) (acc++[id]) hnd
    refine⟨h1,fun x hx=>h2 x (by simp[hx]),fun x hx=>?_⟩
    rcases h3 x hx with h4 | h4
    ·simp at h4
     rcases h4 with h4 | rfl
     ·exact .inl h4
     ·exact .inr ⟨o,hl⟩
    ·exact .inr h4
theorem Zl1:∀ {ids:List Nat} {id:Nat},id∈ids→UF ids id<ids.length∧ids[UF ids id]?=some id
 | [],_,h=>by simp at h
 | x :: r,id,h=>by
  simp only[UF]
  split
  ·rename_i e;subst e;simp
  ·rename_i e
   rcases List.mem_cons.1 h with h | h
   ·exact absurd h.symm e
   ·obtain⟨h1,h2⟩:=Zl1 h
    exact⟨by simp;omega,by simpa using h2⟩
theorem Zkf:∀ {ids:List Nat},ids.Nodup→∀ {k id:Nat},ids[k]?=some id→UF ids id=k
 | [],_,k,id,h=>by simp at h
 | x :: r,hn,k,id,h=>by
  rw[List.nodup_cons] at hn
  cases k with
  | zero=>simp at h;subst h;simp[UF]
  | succ k=>
   simp at h
   have hne:x≠id:=fun e=>hn.1 (e ▸ List.mem_of_getElem? h)
   simp only[UF,if_neg hne,Zkf hn.2 h]
def ZyB {α:Type} (b:Option α):Option α→Option α
 | some v=>some v
 | none=>b
theorem Zl2 {α:Type}:∀ (l:List (Nat×α)) (k:Nat) (v:α) (t:Nat),lkp (l++[(k,v)]) t=ZyB (if k=t then some v else none) (lkp l t)
 | [],k,v,t=>by simp[lkp,ZyB]
 | (j,x) :: l,k,v,t=>by
  by_cases h:j=t
  ·simp[lkp,h,ZyB]
  ·simp[lkp,h,Zl2 l k v t]
theorem Ud:∀ (l:List Zt) (k i:Nat),lkp (UB k l) i=if k≤i then l[i-k]? else none
 | [],k,i=>by simp[UB,lkp]
 | o :: r,k,i=>by
  simp only[UB,Zl2,Ud r]
  by_cases h1:k=i
  ·subst h1;simp[ZyB,Nat.not_succ_le_self]
  ·by_cases h2:k≤i
   ·rw[if_neg h1,if_pos (by omega),if_pos h2]
    have:i-k=(i-(k+1))+1:=by omega
    rw[this];simp;cases r[i-(k+1)]? <;> rfl
   ·rw[if_neg h1,if_neg (by omega),if_neg h2];rfl
theorem Zf6 (hp:Hp):∀ (ids:List Nat) (k:Nat),(Zgh hp ids)[k]?=(ids[k]?).map fun id=>Zmi (lkp hp id)
 | [],k=>by simp[Zgh]
 | id :: r,0=>by simp[Zgh]
 | id :: r,k+1=>by simp[Zgh,Zf6 hp r k]
end Go.Abs
