/- The abstract semantics and the model: names told anew,objects handed over. Own text. -/
import Derived.Test.YtkdjbefmiiibpaaGreatDoorAbsStep8
set_option linter.unusedVariables false
set_option linter.unusedSimpArgs false
namespace Go.Abs
open Go
section
variable {Γ Γ' : Gh} {w w' : World} {I I' : Nat→Prop}
def AV.small:AV→Bool
 | .d _=>false
 | .agg _=>false
 | .tup _=>false
 | .clo _ _=>false
 | _=>true
theorem Jc {x:AV} (hs:x.small=true) (v:Value):(Rep Γ w I x v=Wk Γ w I x v)∧(Za2 Γ w I x v=Wk Γ w I x v)∧(YA Γ w I x v=Wk Γ w I x v):=by
 cases x<;>first | exact⟨rfl,rfl,rfl⟩ | cases hs
theorem VK {x:AV} (hs:x.small=true) (g:Nat→Nat) (bad:List Nat) :
  ren g x=Zgl g x∧Zgm g x=Zgl g x∧kill bad x=Qr bad x∧Z6 bad x=Qr bad x∧ZI x=Zp x∧ZJ x=Zp x:=by
 cases x<;>first | exact⟨rfl,rfl,rfl,rfl,rfl,rfl⟩ | cases hs
def Zcj (Γ Γ' : Gh) (g:Nat→Nat) (ids:List Nat):Prop:=∀ id∈ids,∀ r,Γ id=some r→Γ' (g id)=some r
theorem Zlb {g:Nat→Nat} {x:AV} {v:Value} (hg:Zcj Γ Γ' g (Zp x)) (hk:Z3 I I' w w') (h:Wk Γ w I x v):Wk Γ' w' I' (Zgl g x) v:=by
 cases x with
 | d x=>exact⟨h.1,h.2.mono hk⟩
 | nil=>exact h
 | nilp=>exact h
 | nili=>exact h
 | ptr id off=>obtain⟨b,h1,h2⟩:=h;exact⟨b,hg id (by simp[Zp]) _ h1,h2⟩
 | prow id sz i off=>obtain⟨b,n,c,h1,h2⟩:=h;exact⟨b,n,c,hg id (by simp[Zp]) _ h1,h2⟩
 | pim cs=>obtain⟨b,o,vs,h1,h2,h3,h4⟩:=h;exact⟨b,o,vs,h1,hk.sub b h2,h3.mono (hk.blk b h2),h4.mono hk⟩
 | own id=>obtain⟨a,n,c,sz,h1,h2⟩:=h;exact⟨a,n,c,sz,hg id (by simp[Zp]) _ h1,h2⟩
 | ownv id off n=>obtain⟨a0,m,c,sz,a,h1,h2⟩:=h;exact⟨a0,m,c,sz,a,hg id (by simp[Zp]) _ h1,h2⟩
 | sub id nm=>obtain⟨⟨r,h0⟩,a,n,c,sz,h1,h2⟩:=h;exact⟨⟨r,hg id (by simp[Zp]) _ h0⟩,a,n,c,sz,hg nm (by simp[Zp]) _ h1,h2⟩
 | bnil id e=>obtain⟨b,h1,h2⟩:=h;exact⟨b,hg id (by simp[Zp]) _ h1,h2⟩
 | bbuf a b=>exact h
 | agg cs=>exact h.elim
 | tup cs=>exact h.elim
 | clo f cs=>exact h.elim
 | junk=>exact trivial
theorem Zlc {g:Nat→Nat}:∀ {xs:List AV} {vs:List Value},Zcj Γ Γ' g (xs.flatMap Zp)→Z3 I I' w w'→Zz (Wk Γ w I) xs vs→Zz (Wk Γ' w' I') (xs.map (Zgl g)) vs
 | [],[],_,_,_=>trivial
 | [],_ :: _,_,_,h=>h.elim
 | _ :: _,[],_,_,h=>h.elim
 | x :: xs,v :: vs,hg,hk,h=>⟨Zlb (fun id hid=>hg id (by simp[hid])) hk h.1,Zlc (fun id hid=>hg id (by simp only[List.flatMap_cons,List.mem_append];exact .inr hid)) hk h.2⟩
theorem ZAo {g:Nat→Nat} {x:AV} {v:Value} (hg:Zcj Γ Γ' g (ZJ x)) (hk:Z3 I I' w w') (h:YA Γ w I x v):YA Γ' w' I' (Zgm g x) v:=by
 by_cases hs:x.small=true
 ·rw[(VK hs g []).2.2.2.2.2] at hg
  rw[(Jc hs v).2.2] at h
  rw[(VK hs g []).2.1]
  exact(Zlb hg hk h).repB
 ·cases x with
  | clo f cs=>obtain⟨us,h1,h2⟩:=h;exact⟨us,h1,Zlc hg hk h2⟩
  | agg cs=>exact h.elim
  | tup cs=>exact h.elim
  | d x=>exact⟨h.1,h.2.mono hk⟩
  | _=>exact absurd rfl hs
theorem ZoG {g:Nat→Nat} {x:AV} {v:Value} (hg:Zcj Γ Γ' g (ZJ x)) (hk:Z3 I I' w w') (h:Za2 Γ w I x v):Za2 Γ' w' I' (Zgm g x) v:=by
 by_cases hs:x.small=true
 ·rw[(VK hs g []).2.2.2.2.2] at hg
  rw[(Jc hs v).2.1] at h
  rw[(VK hs g []).2.1]
  exact(Zlb hg hk h).rep2
 ·cases x with
  | clo f cs=>obtain⟨us,h1,h2⟩:=h;exact⟨us,h1,Zlc hg hk h2⟩
  | agg cs=>obtain⟨us,h1,h2⟩:=h;exact⟨us,h1,Zlc hg hk h2⟩
  | tup cs=>exact h.elim
  | d x=>exact Zpy.2 ((Zpy.1 h).mono hk)
  | _=>exact absurd rfl hs
theorem ZrE {g:Nat→Nat}:∀ {xs:List AV} {vs:List Value},Zcj Γ Γ' g (xs.flatMap ZJ)→Z3 I I' w w'→Zz (Za2 Γ w I) xs vs→Zz (Za2 Γ' w' I') (xs.map (Zgm g)) vs
 | [],[],_,_,_=>trivial
 | [],_ :: _,_,_,h=>h.elim
 | _ :: _,[],_,_,h=>h.elim
 | x :: xs,v :: vs,hg,hk,h=>⟨ZoG (fun id hid=>hg id (by simp only[List.flatMap_cons,List.mem_append];exact .inl hid)) hk h.1,ZrE (fun id hid=>hg id (by simp only[List.flatMap_cons,List.mem_append];exact .inr hid)) hk h.2⟩
theorem Zgn {g:Nat→Nat}:∀ {xs:List AV} {vs:List Value},Zcj Γ Γ' g (xs.flatMap ZJ)→Z3 I I' w w'→Zz (YA Γ w I) xs vs→Zz (YA Γ' w' I') (xs.map (Zgm g)) vs
 | [],[],_,_,_=>trivial
 | [],_ :: _,_,_,h=>h.elim
 | _ :: _,[],_,_,h=>h.elim
 | x :: xs,v :: vs,hg,hk,h=>⟨ZAo (fun id hid=>hg id (by simp only[List.flatMap_cons,List.mem_append];exact .inl hid)) hk h.1,Zgn (fun id hid=>hg id (by simp only[List.flatMap_cons,List.mem_append];exact .inr hid)) hk h.2⟩
theorem Zoq {g:Nat→Nat} {x:AV} {v:Value} (hg:Zcj Γ Γ' g (ZI x)) (hk:Z3 I I' w w') (h:Rep Γ w I x v):Rep Γ' w' I' (ren g x) v:=by
 by_cases hs:x.small=true
 ·rw[(VK hs g []).2.2.2.2.1] at hg
  rw[(Jc hs v).1] at h
  rw[(VK hs g []).1]
  exact(Zlb hg hk h).rep2.rep
 ·cases x with
  | tup vs=>obtain⟨us,h1,h2⟩:=h;exact⟨us,h1,ZrE hg hk h2⟩
  | clo f cs=>exact ZoG (g:=g) (x:=.clo f cs) hg hk h
  | agg cs=>exact ZoG (g:=g) (x:=.agg cs) hg hk h
  | d x=>exact Q5.2 ((Q5.1 h).mono hk)
  | _=>exact absurd rfl hs
theorem Zjr {bad:List Nat} {x:AV} {v:Value} (h:Wk Γ w I x v):Wk Γ w I (Qr bad x) v:=by
 cases x<;>simp only[Qr]<;>first | exact h | (split<;>first | exact trivial | exact h)
theorem Zmo {bad:List Nat} {xs:List AV} {vs:List Value} (h:Zz (Wk Γ w I) xs vs):Zz (Wk Γ w I) (xs.map (Qr bad)) vs:=h.map_left fun _ _ h=>Zjr h
theorem Zmp {bad:List Nat} {x:AV} {v:Value} (h:YA Γ w I x v):YA Γ w I (Z6 bad x) v:=by
 by_cases hs:x.small=true
 ·rw[(Jc hs v).2.2] at h
  rw[(VK hs id bad).2.2.2.1]
  exact(Zjr h).repB
 ·cases x with
  | clo f cs=>obtain⟨us,h1,h2⟩:=h;exact⟨us,h1,Zmo h2⟩
  | agg cs=>exact h.elim
  | tup cs=>exact h.elim
  | d x=>exact h
  | _=>exact absurd rfl hs
theorem Zmq {bad:List Nat} {x:AV} {v:Value} (h:Za2 Γ w I x v):Za2 Γ w I (Z6 bad x) v:=by
 by_cases hs:x.small=true
 ·rw[(Jc hs v).2.1] at h
  rw[(VK hs id bad).2.2.2.1]
  exact(Zjr h).rep2
 ·cases x with
  | clo f cs=>obtain⟨us,h1,h2⟩:=h;exact⟨us,h1,Zmo h2⟩
  | agg cs=>obtain⟨us,h1,h2⟩:=h;exact⟨us,h1,Zmo h2⟩
  | tup cs=>exact h.elim
  | d x=>exact h
  | _=>exact absurd rfl hs
theorem Zua {bad:List Nat} {x:AV} {v:Value} (h:Rep Γ w I x v):Rep Γ w I (kill bad x) v:=by
 by_cases hs:x.small=true
 ·rw[(Jc hs v).1] at h
  rw[(VK hs id bad).2.2.1]
  exact(Zjr h).rep2.rep
 ·cases x with
  | tup vs=>obtain⟨us,h1,h2⟩:=h;exact⟨us,h1,h2.map_left fun _ _ h=>Zmq h⟩
  | clo f cs=>exact(Zmq (bad:=bad) (x:=.clo f cs) h).rep
  | agg cs=>exact(Zmq (bad:=bad) (x:=.agg cs) h).rep
  | d x=>exact h
  | _=>exact absurd rfl hs
theorem Zkr (bad:List Nat) (x:AV):∀ id∈Zp (Qr bad x),id∈Zp x∧id∉bad:=by
 intro id hid
 cases x<;>simp only[Qr] at hid<;>first
  | (simp[Zp] at hid;done)
  | (split at hid
     ·simp [Zp] at hid
     ·rename_i hb;simp[Zp] at hid hb ⊢;first | (subst hid;simpa using hb) | (rcases hid with rfl | rfl<;>simp[hb]))
theorem Zg9 (bad:List Nat) (xs:List AV):∀ id∈(xs.map (Qr bad)).flatMap Zp,id∈xs.flatMap Zp∧id∉bad:=by
 intro id hid
 obtain⟨y,hy,hid⟩:=List.mem_flatMap.1 hid
 obtain⟨x,hx,rfl⟩:=List.mem_map.1 hy
 obtain⟨h1,h2⟩:=Zkr bad x id hid
 exact⟨List.mem_flatMap.2 ⟨x,hx,h1⟩,h2⟩
theorem Zha (bad:List Nat) (x:AV):∀ id∈ZJ (Z6 bad x),id∈ZJ x∧id∉bad:=by
 intro id hid
 by_cases hs:x.small=true
 ·rw[(VK hs (fun k=>k) bad).2.2.2.1] at hid
  have hs' : ZJ (Qr bad x)=Zp (Qr bad x):=by
   cases x<;>simp only[Qr]<;>first | rfl | (split<;>rfl) | (cases hs)
  rw[hs'] at hid
  rw[(VK hs (fun k=>k) bad).2.2.2.2.2]
  exact Zkr bad x id hid
 ·cases x with
  | agg cs=>exact Zg9 bad cs id hid
  | clo f cs=>exact Zg9 bad cs id hid
  | tup cs=>simp[Z6,Qr,ZJ,Zp] at hid
  | d x=>simp[Z6,Qr,ZJ,Zp] at hid
  | _=>exact absurd rfl hs
theorem Zmr (bad:List Nat) (x:AV):∀ id∈ZI (kill bad x),id∈ZI x∧id∉bad:=by
 intro id hid
 by_cases hs:x.small=true
 ·rw[(VK hs (fun k=>k) bad).2.2.1] at hid
  have hs' : ZI (Qr bad x)=Zp (Qr bad x):=by
   cases x<;>simp only[Qr]<;>first | rfl | (split<;>rfl) | (cases hs)
  rw[hs'] at hid
  rw[(VK hs (fun k=>k) bad).2.2.2.2.1]
  exact Zkr bad x id hid
 ·cases x with
  | tup vs=>
   obtain⟨y,hy,hid⟩:=List.mem_flatMap.1 hid
   obtain⟨x,hx,rfl⟩:=List.mem_map.1 hy
   obtain⟨h1,h2⟩:=Zha bad x id hid
   exact⟨List.mem_flatMap.2 ⟨x,hx,h1⟩,h2⟩
  | agg cs=>exact Zg9 bad cs id hid
  | clo f cs=>exact Zg9 bad cs id hid
  | d x=>simp[kill,Z6,Qr,ZI,ZJ,Zp] at hid
  | _=>exact absurd rfl hs
end
theorem Zcr (hp:Hp):∀ (n:Nat) (todo acc:List Nat),acc.Nodup→(Xd hp n todo acc).Nodup∧(∀ id∈acc,id∈Xd hp n todo acc)∧(∀ id∈Xd hp n todo acc,id∈acc∨∃ o,lkp hp id=some o)
 | 0,todo,acc,h=>by simp only[Xd];exact⟨h,fun _ h=>h,fun _ h=>.inl h⟩
 | n+1,[],acc,h=>by simp only[Xd];exact⟨h,fun _ h=>h,fun _ h=>.inl h⟩
 | n+1,id :: todo,acc,h=>by
  simp only[Xd]
  split
  ·exact Zcr hp n todo acc h
  ·rename_i hc
   cases hl:lkp hp id with
   | none=>simp only[ZaY];exact Zcr hp n todo acc h
   | some o=>
    simp only[ZaY]
    have hnd:(acc++[id]).Nodup:=by
     rw[List.nodup_append]
     refine⟨h,by simp,?_⟩
     intro a ha b hb
     simp at hb
     subst hb
     intro e
     subst e
     simp at hc
     exact hc ha
    obtain⟨h1,h2,h3⟩:=Zcr hp n (todo++Zcq o) (acc++[id]) hnd
    refine⟨h1,fun x hx=>h2 x (by simp[hx]),fun x hx=>?_⟩
    rcases h3 x hx with h4 | h4
    ·simp at h4
     rcases h4 with h4 | rfl
     ·exact .inl h4
     ·exact .inr ⟨o,hl⟩
    ·exact .inr h4
theorem Zld:∀ {ids:List Nat} {id:Nat},id∈ids→UA ids id<ids.length∧ids[UA ids id]?=some id
 | [],_,h=>by simp at h
 | x :: r,id,h=>by
  simp only[UA]
  split
  ·rename_i e;subst e;simp
  ·rename_i e
   rcases List.mem_cons.1 h with h | h
   ·exact absurd h.symm e
   ·obtain⟨h1,h2⟩:=Zld h
    exact⟨by simp;omega,by simpa using h2⟩
theorem Zjs:∀ {ids:List Nat},ids.Nodup→∀ {k id:Nat},ids[k]?=some id→UA ids id=k
 | [],_,k,id,h=>by simp at h
 | x :: r,hn,k,id,h=>by
  rw[List.nodup_cons] at hn
  cases k with
  | zero=>simp at h;subst h;simp[UA]
  | succ k=>
   simp at h
   have hne:x≠id:=fun e=>hn.1 (e ▸ List.mem_of_getElem? h)
   simp only[UA,if_neg hne,Zjs hn.2 h]
def ZyK {α:Type} (b:Option α):Option α→Option α
 | some v=>some v
 | none=>b
theorem Zle {α:Type}:∀ (l:List (Nat×α)) (k:Nat) (v:α) (t:Nat),lkp (l++[(k,v)]) t=ZyK (if k=t then some v else none) (lkp l t)
 | [],k,v,t=>by simp[lkp,ZyK]
 | (j,x) :: l,k,v,t=>by
  by_cases h:j=t
  ·simp[lkp,h,ZyK]
  ·simp[lkp,h,Zle l k v t]
theorem Wi:∀ (l:List Zo) (k i:Nat),lkp (W5 k l) i=if k≤i then l[i-k]? else none
 | [],k,i=>by simp[W5,lkp]
 | o :: r,k,i=>by
  simp only[W5,Zle,Wi r]
  by_cases h1:k=i
  ·subst h1;simp[ZyK,Nat.not_succ_le_self]
  ·by_cases h2:k≤i
   ·rw[if_neg h1,if_pos (by omega),if_pos h2]
    have:i-k=(i-(k+1))+1:=by omega
    rw[this];simp;cases r[i-(k+1)]? <;> rfl
   ·rw[if_neg h1,if_neg (by omega),if_neg h2];rfl
theorem ZdU (hp:Hp):∀ (ids:List Nat) (k:Nat),(Zd3 hp ids)[k]?=(ids[k]?).map fun id=>Zlu (lkp hp id)
 | [],k=>by simp[Zd3]
 | id :: r,0=>by simp[Zd3]
 | id :: r,k+1=>by simp[Zd3,ZdU hp r k]
end Go.Abs
