/- The abstract semantics and the model: names told anew,objects handed over. Own text. -/
import Derived.Test.YtemkonmgcoceaaaDoorAbsStep8
set_option linter.unusedVariables false
set_option linter.unusedSimpArgs false
namespace Go.Abs
open Go
section
variable {Γ Γ' : Gh} {w w' : World} {I I' : Nat→Prop}
def AV.small:AV→Bool
 | .d _=>false
 | .agg _=>false
 | .tup _=>false
 | .clo _ _=>false
 | _=>true
theorem YT {x:AV} (hs:x.small=true) (v:Value):(Rep Γ w I x v=XV Γ w I x v)∧(VZ Γ w I x v=XV Γ w I x v)∧(Q0 Γ w I x v=XV Γ w I x v):=by
 cases x<;>first | exact⟨rfl,rfl,rfl⟩ | cases hs
theorem XB {x:AV} (hs:x.small=true) (g:Nat→Nat) (bad:List Nat) :
  ren g x=JR g x∧JS g x=JR g x∧kill bad x=ZQ bad x∧ZG bad x=ZQ bad x∧Zs x=Zf x∧Zu x=Zf x:=by
 cases x<;>first | exact⟨rfl,rfl,rfl,rfl,rfl,rfl⟩ | cases hs
def Wy (Γ Γ' : Gh) (g:Nat→Nat) (ids:List Nat):Prop:=∀ id∈ids,∀ r,Γ id=some r→Γ' (g id)=some r
theorem Zdn {g:Nat→Nat} {x:AV} {v:Value} (hg:Wy Γ Γ' g (Zf x)) (hk:ZF I I' w w') (h:XV Γ w I x v):XV Γ' w' I' (JR g x) v:=by
 cases x with
 | d x=>exact⟨h.1,h.2.mono hk⟩
 | nil=>exact h
 | nilp=>exact h
 | nili=>exact h
 | ptr id off=>obtain⟨b,h1,h2⟩:=h;exact⟨b,hg id (by simp[Zf]) _ h1,h2⟩
 | prow id sz i off=>obtain⟨b,n,c,h1,h2⟩:=h;exact⟨b,n,c,hg id (by simp[Zf]) _ h1,h2⟩
 | pim cs=>obtain⟨b,o,vs,h1,h2,h3,h4⟩:=h;exact⟨b,o,vs,h1,hk.sub b h2,h3.mono (hk.blk b h2),h4.mono hk⟩
 | own id=>obtain⟨a,n,c,sz,h1,h2⟩:=h;exact⟨a,n,c,sz,hg id (by simp[Zf]) _ h1,h2⟩
 | ownv id off n=>obtain⟨a0,m,c,sz,a,h1,h2⟩:=h;exact⟨a0,m,c,sz,a,hg id (by simp[Zf]) _ h1,h2⟩
 | sub id nm=>obtain⟨⟨r,h0⟩,a,n,c,sz,h1,h2⟩:=h;exact⟨⟨r,hg id (by simp[Zf]) _ h0⟩,a,n,c,sz,hg nm (by simp[Zf]) _ h1,h2⟩
 | bnil id e=>obtain⟨b,h1,h2⟩:=h;exact⟨b,hg id (by simp[Zf]) _ h1,h2⟩
 | bbuf a b=>exact h
 | agg cs=>exact h.elim
 | tup cs=>exact h.elim
 | clo f cs=>exact h.elim
 | junk=>exact trivial
theorem Zdo {g:Nat→Nat}:∀ {xs:List AV} {vs:List Value},Wy Γ Γ' g (xs.flatMap Zf)→ZF I I' w w'→Zm (XV Γ w I) xs vs→Zm (XV Γ' w' I') (xs.map (JR g)) vs
 | [],[],_,_,_=>trivial
 | [],_ :: _,_,_,h=>h.elim
 | _ :: _,[],_,_,h=>h.elim
 | x :: xs,v :: vs,hg,hk,h=>⟨Zdn (fun id hid=>hg id (by simp[hid])) hk h.1,Zdo (fun id hid=>hg id (by simp only[List.flatMap_cons,List.mem_append];exact .inr hid)) hk h.2⟩
theorem ZoU {g:Nat→Nat} {x:AV} {v:Value} (hg:Wy Γ Γ' g (Zu x)) (hk:ZF I I' w w') (h:Q0 Γ w I x v):Q0 Γ' w' I' (JS g x) v:=by
 by_cases hs:x.small=true
 ·rw[(XB hs g []).2.2.2.2.2] at hg
  rw[(YT hs v).2.2] at h
  rw[(XB hs g []).2.1]
  exact(Zdn hg hk h).repB
 ·cases x with
  | clo f cs=>obtain⟨us,h1,h2⟩:=h;exact⟨us,h1,Zdo hg hk h2⟩
  | agg cs=>exact h.elim
  | tup cs=>exact h.elim
  | d x=>exact⟨h.1,h.2.mono hk⟩
  | _=>exact absurd rfl hs
theorem Zgf {g:Nat→Nat} {x:AV} {v:Value} (hg:Wy Γ Γ' g (Zu x)) (hk:ZF I I' w w') (h:VZ Γ w I x v):VZ Γ' w' I' (JS g x) v:=by
 by_cases hs:x.small=true
 ·rw[(XB hs g []).2.2.2.2.2] at hg
  rw[(YT hs v).2.1] at h
  rw[(XB hs g []).2.1]
  exact(Zdn hg hk h).rep2
 ·cases x with
  | clo f cs=>obtain⟨us,h1,h2⟩:=h;exact⟨us,h1,Zdo hg hk h2⟩
  | agg cs=>obtain⟨us,h1,h2⟩:=h;exact⟨us,h1,Zdo hg hk h2⟩
  | tup cs=>exact h.elim
  | d x=>exact Zg5.2 ((Zg5.1 h).mono hk)
  | _=>exact absurd rfl hs
theorem Zic {g:Nat→Nat}:∀ {xs:List AV} {vs:List Value},Wy Γ Γ' g (xs.flatMap Zu)→ZF I I' w w'→Zm (VZ Γ w I) xs vs→Zm (VZ Γ' w' I') (xs.map (JS g)) vs
 | [],[],_,_,_=>trivial
 | [],_ :: _,_,_,h=>h.elim
 | _ :: _,[],_,_,h=>h.elim
 | x :: xs,v :: vs,hg,hk,h=>⟨Zgf (fun id hid=>hg id (by simp only[List.flatMap_cons,List.mem_append];exact .inl hid)) hk h.1,Zic (fun id hid=>hg id (by simp only[List.flatMap_cons,List.mem_append];exact .inr hid)) hk h.2⟩
theorem JT {g:Nat→Nat}:∀ {xs:List AV} {vs:List Value},Wy Γ Γ' g (xs.flatMap Zu)→ZF I I' w w'→Zm (Q0 Γ w I) xs vs→Zm (Q0 Γ' w' I') (xs.map (JS g)) vs
 | [],[],_,_,_=>trivial
 | [],_ :: _,_,_,h=>h.elim
 | _ :: _,[],_,_,h=>h.elim
 | x :: xs,v :: vs,hg,hk,h=>⟨ZoU (fun id hid=>hg id (by simp only[List.flatMap_cons,List.mem_append];exact .inl hid)) hk h.1,JT (fun id hid=>hg id (by simp only[List.flatMap_cons,List.mem_append];exact .inr hid)) hk h.2⟩
theorem ZfH {g:Nat→Nat} {x:AV} {v:Value} (hg:Wy Γ Γ' g (Zs x)) (hk:ZF I I' w w') (h:Rep Γ w I x v):Rep Γ' w' I' (ren g x) v:=by
 by_cases hs:x.small=true
 ·rw[(XB hs g []).2.2.2.2.1] at hg
  rw[(YT hs v).1] at h
  rw[(XB hs g []).1]
  exact(Zdn hg hk h).rep2.rep
 ·cases x with
  | tup vs=>obtain⟨us,h1,h2⟩:=h;exact⟨us,h1,Zic hg hk h2⟩
  | clo f cs=>exact Zgf (g:=g) (x:=.clo f cs) hg hk h
  | agg cs=>exact Zgf (g:=g) (x:=.agg cs) hg hk h
  | d x=>exact Z9.2 ((Z9.1 h).mono hk)
  | _=>exact absurd rfl hs
theorem ZbN {bad:List Nat} {x:AV} {v:Value} (h:XV Γ w I x v):XV Γ w I (ZQ bad x) v:=by
 cases x<;>simp only[ZQ]<;>first | exact h | (split<;>first | exact trivial | exact h)
theorem Zef {bad:List Nat} {xs:List AV} {vs:List Value} (h:Zm (XV Γ w I) xs vs):Zm (XV Γ w I) (xs.map (ZQ bad)) vs:=h.map_left fun _ _ h=>ZbN h
theorem Zeg {bad:List Nat} {x:AV} {v:Value} (h:Q0 Γ w I x v):Q0 Γ w I (ZG bad x) v:=by
 by_cases hs:x.small=true
 ·rw[(YT hs v).2.2] at h
  rw[(XB hs id bad).2.2.2.1]
  exact(ZbN h).repB
 ·cases x with
  | clo f cs=>obtain⟨us,h1,h2⟩:=h;exact⟨us,h1,Zef h2⟩
  | agg cs=>exact h.elim
  | tup cs=>exact h.elim
  | d x=>exact h
  | _=>exact absurd rfl hs
theorem Zeh {bad:List Nat} {x:AV} {v:Value} (h:VZ Γ w I x v):VZ Γ w I (ZG bad x) v:=by
 by_cases hs:x.small=true
 ·rw[(YT hs v).2.1] at h
  rw[(XB hs id bad).2.2.2.1]
  exact(ZbN h).rep2
 ·cases x with
  | clo f cs=>obtain⟨us,h1,h2⟩:=h;exact⟨us,h1,Zef h2⟩
  | agg cs=>obtain⟨us,h1,h2⟩:=h;exact⟨us,h1,Zef h2⟩
  | tup cs=>exact h.elim
  | d x=>exact h
  | _=>exact absurd rfl hs
theorem Zkk {bad:List Nat} {x:AV} {v:Value} (h:Rep Γ w I x v):Rep Γ w I (kill bad x) v:=by
 by_cases hs:x.small=true
 ·rw[(YT hs v).1] at h
  rw[(XB hs id bad).2.2.1]
  exact(ZbN h).rep2.rep
 ·cases x with
  | tup vs=>obtain⟨us,h1,h2⟩:=h;exact⟨us,h1,h2.map_left fun _ _ h=>Zeh h⟩
  | clo f cs=>exact(Zeh (bad:=bad) (x:=.clo f cs) h).rep
  | agg cs=>exact(Zeh (bad:=bad) (x:=.agg cs) h).rep
  | d x=>exact h
  | _=>exact absurd rfl hs
theorem ZcD (bad:List Nat) (x:AV):∀ id∈Zf (ZQ bad x),id∈Zf x∧id∉bad:=by
 intro id hid
 cases x<;>simp only[ZQ] at hid<;>first
  | (simp[Zf] at hid;done)
  | (split at hid
     ·simp [Zf] at hid
     ·rename_i hb;simp[Zf] at hid hb ⊢;first | (subst hid;simpa using hb) | (rcases hid with rfl | rfl<;>simp[hb]))
theorem Zaq (bad:List Nat) (xs:List AV):∀ id∈(xs.map (ZQ bad)).flatMap Zf,id∈xs.flatMap Zf∧id∉bad:=by
 intro id hid
 obtain⟨y,hy,hid⟩:=List.mem_flatMap.1 hid
 obtain⟨x,hx,rfl⟩:=List.mem_map.1 hy
 obtain⟨h1,h2⟩:=ZcD bad x id hid
 exact⟨List.mem_flatMap.2 ⟨x,hx,h1⟩,h2⟩
theorem Zar (bad:List Nat) (x:AV):∀ id∈Zu (ZG bad x),id∈Zu x∧id∉bad:=by
 intro id hid
 by_cases hs:x.small=true
 ·rw[(XB hs (fun k=>k) bad).2.2.2.1] at hid
  have hs' : Zu (ZQ bad x)=Zf (ZQ bad x):=by
   cases x<;>simp only[ZQ]<;>first | rfl | (split<;>rfl) | (cases hs)
  rw[hs'] at hid
  rw[(XB hs (fun k=>k) bad).2.2.2.2.2]
  exact ZcD bad x id hid
 ·cases x with
  | agg cs=>exact Zaq bad cs id hid
  | clo f cs=>exact Zaq bad cs id hid
  | tup cs=>simp[ZG,ZQ,Zu,Zf] at hid
  | d x=>simp[ZG,ZQ,Zu,Zf] at hid
  | _=>exact absurd rfl hs
theorem Zei (bad:List Nat) (x:AV):∀ id∈Zs (kill bad x),id∈Zs x∧id∉bad:=by
 intro id hid
 by_cases hs:x.small=true
 ·rw[(XB hs (fun k=>k) bad).2.2.1] at hid
  have hs' : Zs (ZQ bad x)=Zf (ZQ bad x):=by
   cases x<;>simp only[ZQ]<;>first | rfl | (split<;>rfl) | (cases hs)
  rw[hs'] at hid
  rw[(XB hs (fun k=>k) bad).2.2.2.2.1]
  exact ZcD bad x id hid
 ·cases x with
  | tup vs=>
   obtain⟨y,hy,hid⟩:=List.mem_flatMap.1 hid
   obtain⟨x,hx,rfl⟩:=List.mem_map.1 hy
   obtain⟨h1,h2⟩:=Zar bad x id hid
   exact⟨List.mem_flatMap.2 ⟨x,hx,h1⟩,h2⟩
  | agg cs=>exact Zaq bad cs id hid
  | clo f cs=>exact Zaq bad cs id hid
  | d x=>simp[kill,ZG,ZQ,Zs,Zu,Zf] at hid
  | _=>exact absurd rfl hs
end
theorem WK (hp:Hp):∀ (n:Nat) (todo acc:List Nat),acc.Nodup→(Qj hp n todo acc).Nodup∧(∀ id∈acc,id∈Qj hp n todo acc)∧(∀ id∈Qj hp n todo acc,id∈acc∨∃ o,lkp hp id=some o)
 | 0,todo,acc,h=>by simp only[Qj];exact⟨h,fun _ h=>h,fun _ h=>.inl h⟩
 | n+1,[],acc,h=>by simp only[Qj];exact⟨h,fun _ h=>h,fun _ h=>.inl h⟩
 | n+1,id :: todo,acc,h=>by
  simp only[Qj]
  split
  ·exact WK hp n todo acc h
  ·rename_i hc
   cases hl:lkp hp id with
   | none=>simp only[VU];exact WK hp n todo acc h
   | some o=>
    simp only[VU]
    have hnd:(acc++[id]).Nodup:=by
     rw[List.nodup_append]
     refine⟨h,by simp,?_⟩
     intro a ha b hb
     simp at hb
     subst hb
     intro e
     subst e
     simp at hc
     exact hc ha
    obtain⟨h1,h2,h3⟩:=WK hp n (todo++WJ o) (acc++[id]) hnd
    refine⟨h1,fun x hx=>h2 x (by simp[hx]),fun x hx=>?_⟩
    rcases h3 x hx with h4 | h4
    ·simp at h4
     rcases h4 with h4 | rfl
     ·exact .inl h4
     ·exact .inr ⟨o,hl⟩
    ·exact .inr h4
theorem Zdp:∀ {ids:List Nat} {id:Nat},id∈ids→Ys ids id<ids.length∧ids[Ys ids id]?=some id
 | [],_,h=>by simp at h
 | x :: r,id,h=>by
  simp only[Ys]
  split
  ·rename_i e;subst e;simp
  ·rename_i e
   rcases List.mem_cons.1 h with h | h
   ·exact absurd h.symm e
   ·obtain⟨h1,h2⟩:=Zdp h
    exact⟨by simp;omega,by simpa using h2⟩
theorem ZbO:∀ {ids:List Nat},ids.Nodup→∀ {k id:Nat},ids[k]?=some id→Ys ids id=k
 | [],_,k,id,h=>by simp at h
 | x :: r,hn,k,id,h=>by
  rw[List.nodup_cons] at hn
  cases k with
  | zero=>simp at h;subst h;simp[Ys]
  | succ k=>
   simp at h
   have hne:x≠id:=fun e=>hn.1 (e ▸ List.mem_of_getElem? h)
   simp only[Ys,if_neg hne,ZbO hn.2 h]
def ZnG {α:Type} (b:Option α):Option α→Option α
 | some v=>some v
 | none=>b
theorem Zdq {α:Type}:∀ (l:List (Nat×α)) (k:Nat) (v:α) (t:Nat),lkp (l++[(k,v)]) t=ZnG (if k=t then some v else none) (lkp l t)
 | [],k,v,t=>by simp[lkp,ZnG]
 | (j,x) :: l,k,v,t=>by
  by_cases h:j=t
  ·simp[lkp,h,ZnG]
  ·simp[lkp,h,Zdq l k v t]
theorem XS:∀ (l:List Zi) (k i:Nat),lkp (Yj k l) i=if k≤i then l[i-k]? else none
 | [],k,i=>by simp[Yj,lkp]
 | o :: r,k,i=>by
  simp only[Yj,Zdq,XS r]
  by_cases h1:k=i
  ·subst h1;simp[ZnG,Nat.not_succ_le_self]
  ·by_cases h2:k≤i
   ·rw[if_neg h1,if_pos (by omega),if_pos h2]
    have:i-k=(i-(k+1))+1:=by omega
    rw[this];simp;cases r[i-(k+1)]? <;> rfl
   ·rw[if_neg h1,if_neg (by omega),if_neg h2];rfl
theorem UF (hp:Hp):∀ (ids:List Nat) (k:Nat),(UO hp ids)[k]?=(ids[k]?).map fun id=>ZdG (lkp hp id)
 | [],k=>by simp[UO]
 | id :: r,0=>by simp[UO]
 | id :: r,k+1=>by simp[UO,UF hp r k]
end Go.Abs
