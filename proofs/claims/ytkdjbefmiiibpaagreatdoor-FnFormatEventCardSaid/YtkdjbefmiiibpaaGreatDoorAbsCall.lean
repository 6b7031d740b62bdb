/- The abstract semantics and the model: names told anew,objects handed over. Own text. -/
import Derived.Test.YtkdjbefmiiibpaaGreatDoorAbsStep8
set_option linter.unusedVariables false
set_option linter.unusedSimpArgs false
namespace Go.Abs
open Go
section
variable {Γ Γ' : Gh} {w w' : World} {I I' : Nat→Prop}
def AV.small:AV→Bool
 | .d _=>false
 | .agg _=>false
 | .tup _=>false
 | .clo _ _=>false
 | _=>true
theorem Um {x:AV} (hs:x.small=true) (v:Value):(Rep Γ w I x v=Vt Γ w I x v)∧(J0 Γ w I x v=Vt Γ w I x v)∧(X4 Γ w I x v=Vt Γ w I x v):=by
 cases x<;>first | exact⟨rfl,rfl,rfl⟩ | cases hs
theorem YY {x:AV} (hs:x.small=true) (g:Nat→Nat) (bad:List Nat) :
  ren g x=Zdj g x∧Zdk g x=Zdj g x∧kill bad x=Qk bad x∧Z0 bad x=Qk bad x∧ZF x=Zm x∧ZG x=Zm x:=by
 cases x<;>first | exact⟨rfl,rfl,rfl,rfl,rfl,rfl⟩ | cases hs
def ZaD (Γ Γ' : Gh) (g:Nat→Nat) (ids:List Nat):Prop:=∀ id∈ids,∀ r,Γ id=some r→Γ' (g id)=some r
theorem ZhP {g:Nat→Nat} {x:AV} {v:Value} (hg:ZaD Γ Γ' g (Zm x)) (hk:ZX I I' w w') (h:Vt Γ w I x v):Vt Γ' w' I' (Zdj g x) v:=by
 cases x with
 | d x=>exact⟨h.1,h.2.mono hk⟩
 | nil=>exact h
 | nilp=>exact h
 | nili=>exact h
 | ptr id off=>obtain⟨b,h1,h2⟩:=h;exact⟨b,hg id (by simp[Zm]) _ h1,h2⟩
 | prow id sz i off=>obtain⟨b,n,c,h1,h2⟩:=h;exact⟨b,n,c,hg id (by simp[Zm]) _ h1,h2⟩
 | pim cs=>obtain⟨b,o,vs,h1,h2,h3,h4⟩:=h;exact⟨b,o,vs,h1,hk.sub b h2,h3.mono (hk.blk b h2),h4.mono hk⟩
 | own id=>obtain⟨a,n,c,sz,h1,h2⟩:=h;exact⟨a,n,c,sz,hg id (by simp[Zm]) _ h1,h2⟩
 | ownv id off n=>obtain⟨a0,m,c,sz,a,h1,h2⟩:=h;exact⟨a0,m,c,sz,a,hg id (by simp[Zm]) _ h1,h2⟩
 | sub id nm=>obtain⟨⟨r,h0⟩,a,n,c,sz,h1,h2⟩:=h;exact⟨⟨r,hg id (by simp[Zm]) _ h0⟩,a,n,c,sz,hg nm (by simp[Zm]) _ h1,h2⟩
 | bnil id e=>obtain⟨b,h1,h2⟩:=h;exact⟨b,hg id (by simp[Zm]) _ h1,h2⟩
 | bbuf a b=>exact h
 | agg cs=>exact h.elim
 | tup cs=>exact h.elim
 | clo f cs=>exact h.elim
 | junk=>exact trivial
theorem ZhQ {g:Nat→Nat}:∀ {xs:List AV} {vs:List Value},ZaD Γ Γ' g (xs.flatMap Zm)→ZX I I' w w'→Zu (Vt Γ w I) xs vs→Zu (Vt Γ' w' I') (xs.map (Zdj g)) vs
 | [],[],_,_,_=>trivial
 | [],_ :: _,_,_,h=>h.elim
 | _ :: _,[],_,_,h=>h.elim
 | x :: xs,v :: vs,hg,hk,h=>⟨ZhP (fun id hid=>hg id (by simp[hid])) hk h.1,ZhQ (fun id hid=>hg id (by simp only[List.flatMap_cons,List.mem_append];exact .inr hid)) hk h.2⟩
theorem Zxq {g:Nat→Nat} {x:AV} {v:Value} (hg:ZaD Γ Γ' g (ZG x)) (hk:ZX I I' w w') (h:X4 Γ w I x v):X4 Γ' w' I' (Zdk g x) v:=by
 by_cases hs:x.small=true
 ·rw[(YY hs g []).2.2.2.2.2] at hg
  rw[(Um hs v).2.2] at h
  rw[(YY hs g []).2.1]
  exact(ZhP hg hk h).repB
 ·cases x with
  | clo f cs=>obtain⟨us,h1,h2⟩:=h;exact⟨us,h1,ZhQ hg hk h2⟩
  | agg cs=>exact h.elim
  | tup cs=>exact h.elim
  | d x=>exact⟨h.1,h.2.mono hk⟩
  | _=>exact absurd rfl hs
theorem ZlP {g:Nat→Nat} {x:AV} {v:Value} (hg:ZaD Γ Γ' g (ZG x)) (hk:ZX I I' w w') (h:J0 Γ w I x v):J0 Γ' w' I' (Zdk g x) v:=by
 by_cases hs:x.small=true
 ·rw[(YY hs g []).2.2.2.2.2] at hg
  rw[(Um hs v).2.1] at h
  rw[(YY hs g []).2.1]
  exact(ZhP hg hk h).rep2
 ·cases x with
  | clo f cs=>obtain⟨us,h1,h2⟩:=h;exact⟨us,h1,ZhQ hg hk h2⟩
  | agg cs=>obtain⟨us,h1,h2⟩:=h;exact⟨us,h1,ZhQ hg hk h2⟩
  | tup cs=>exact h.elim
  | d x=>exact ZmI.2 ((ZmI.1 h).mono hk)
  | _=>exact absurd rfl hs
theorem ZoC {g:Nat→Nat}:∀ {xs:List AV} {vs:List Value},ZaD Γ Γ' g (xs.flatMap ZG)→ZX I I' w w'→Zu (J0 Γ w I) xs vs→Zu (J0 Γ' w' I') (xs.map (Zdk g)) vs
 | [],[],_,_,_=>trivial
 | [],_ :: _,_,_,h=>h.elim
 | _ :: _,[],_,_,h=>h.elim
 | x :: xs,v :: vs,hg,hk,h=>⟨ZlP (fun id hid=>hg id (by simp only[List.flatMap_cons,List.mem_append];exact .inl hid)) hk h.1,ZoC (fun id hid=>hg id (by simp only[List.flatMap_cons,List.mem_append];exact .inr hid)) hk h.2⟩
theorem Zdl {g:Nat→Nat}:∀ {xs:List AV} {vs:List Value},ZaD Γ Γ' g (xs.flatMap ZG)→ZX I I' w w'→Zu (X4 Γ w I) xs vs→Zu (X4 Γ' w' I') (xs.map (Zdk g)) vs
 | [],[],_,_,_=>trivial
 | [],_ :: _,_,_,h=>h.elim
 | _ :: _,[],_,_,h=>h.elim
 | x :: xs,v :: vs,hg,hk,h=>⟨Zxq (fun id hid=>hg id (by simp only[List.flatMap_cons,List.mem_append];exact .inl hid)) hk h.1,Zdl (fun id hid=>hg id (by simp only[List.flatMap_cons,List.mem_append];exact .inr hid)) hk h.2⟩
theorem ZkL {g:Nat→Nat} {x:AV} {v:Value} (hg:ZaD Γ Γ' g (ZF x)) (hk:ZX I I' w w') (h:Rep Γ w I x v):Rep Γ' w' I' (ren g x) v:=by
 by_cases hs:x.small=true
 ·rw[(YY hs g []).2.2.2.2.1] at hg
  rw[(Um hs v).1] at h
  rw[(YY hs g []).1]
  exact(ZhP hg hk h).rep2.rep
 ·cases x with
  | tup vs=>obtain⟨us,h1,h2⟩:=h;exact⟨us,h1,ZoC hg hk h2⟩
  | clo f cs=>exact ZlP (g:=g) (x:=.clo f cs) hg hk h
  | agg cs=>exact ZlP (g:=g) (x:=.agg cs) hg hk h
  | d x=>exact QQ.2 ((QQ.1 h).mono hk)
  | _=>exact absurd rfl hs
theorem ZfO {bad:List Nat} {x:AV} {v:Value} (h:Vt Γ w I x v):Vt Γ w I (Qk bad x) v:=by
 cases x<;>simp only[Qk]<;>first | exact h | (split<;>first | exact trivial | exact h)
theorem ZiW {bad:List Nat} {xs:List AV} {vs:List Value} (h:Zu (Vt Γ w I) xs vs):Zu (Vt Γ w I) (xs.map (Qk bad)) vs:=h.map_left fun _ _ h=>ZfO h
theorem ZiX {bad:List Nat} {x:AV} {v:Value} (h:X4 Γ w I x v):X4 Γ w I (Z0 bad x) v:=by
 by_cases hs:x.small=true
 ·rw[(Um hs v).2.2] at h
  rw[(YY hs id bad).2.2.2.1]
  exact(ZfO h).repB
 ·cases x with
  | clo f cs=>obtain⟨us,h1,h2⟩:=h;exact⟨us,h1,ZiW h2⟩
  | agg cs=>exact h.elim
  | tup cs=>exact h.elim
  | d x=>exact h
  | _=>exact absurd rfl hs
theorem ZiY {bad:List Nat} {x:AV} {v:Value} (h:J0 Γ w I x v):J0 Γ w I (Z0 bad x) v:=by
 by_cases hs:x.small=true
 ·rw[(Um hs v).2.1] at h
  rw[(YY hs id bad).2.2.2.1]
  exact(ZfO h).rep2
 ·cases x with
  | clo f cs=>obtain⟨us,h1,h2⟩:=h;exact⟨us,h1,ZiW h2⟩
  | agg cs=>obtain⟨us,h1,h2⟩:=h;exact⟨us,h1,ZiW h2⟩
  | tup cs=>exact h.elim
  | d x=>exact h
  | _=>exact absurd rfl hs
theorem ZrB {bad:List Nat} {x:AV} {v:Value} (h:Rep Γ w I x v):Rep Γ w I (kill bad x) v:=by
 by_cases hs:x.small=true
 ·rw[(Um hs v).1] at h
  rw[(YY hs id bad).2.2.1]
  exact(ZfO h).rep2.rep
 ·cases x with
  | tup vs=>obtain⟨us,h1,h2⟩:=h;exact⟨us,h1,h2.map_left fun _ _ h=>ZiY h⟩
  | clo f cs=>exact(ZiY (bad:=bad) (x:=.clo f cs) h).rep
  | agg cs=>exact(ZiY (bad:=bad) (x:=.agg cs) h).rep
  | d x=>exact h
  | _=>exact absurd rfl hs
theorem ZgU (bad:List Nat) (x:AV):∀ id∈Zm (Qk bad x),id∈Zm x∧id∉bad:=by
 intro id hid
 cases x<;>simp only[Qk] at hid<;>first
  | (simp[Zm] at hid;done)
  | (split at hid
     ·simp [Zm] at hid
     ·rename_i hb;simp[Zm] at hid hb ⊢;first | (subst hid;simpa using hb) | (rcases hid with rfl | rfl<;>simp[hb]))
theorem Zd4 (bad:List Nat) (xs:List AV):∀ id∈(xs.map (Qk bad)).flatMap Zm,id∈xs.flatMap Zm∧id∉bad:=by
 intro id hid
 obtain⟨y,hy,hid⟩:=List.mem_flatMap.1 hid
 obtain⟨x,hx,rfl⟩:=List.mem_map.1 hy
 obtain⟨h1,h2⟩:=ZgU bad x id hid
 exact⟨List.mem_flatMap.2 ⟨x,hx,h1⟩,h2⟩
theorem Zd5 (bad:List Nat) (x:AV):∀ id∈ZG (Z0 bad x),id∈ZG x∧id∉bad:=by
 intro id hid
 by_cases hs:x.small=true
 ·rw[(YY hs (fun k=>k) bad).2.2.2.1] at hid
  have hs' : ZG (Qk bad x)=Zm (Qk bad x):=by
   cases x<;>simp only[Qk]<;>first | rfl | (split<;>rfl) | (cases hs)
  rw[hs'] at hid
  rw[(YY hs (fun k=>k) bad).2.2.2.2.2]
  exact ZgU bad x id hid
 ·cases x with
  | agg cs=>exact Zd4 bad cs id hid
  | clo f cs=>exact Zd4 bad cs id hid
  | tup cs=>simp[Z0,Qk,ZG,Zm] at hid
  | d x=>simp[Z0,Qk,ZG,Zm] at hid
  | _=>exact absurd rfl hs
theorem ZiZ (bad:List Nat) (x:AV):∀ id∈ZF (kill bad x),id∈ZF x∧id∉bad:=by
 intro id hid
 by_cases hs:x.small=true
 ·rw[(YY hs (fun k=>k) bad).2.2.1] at hid
  have hs' : ZF (Qk bad x)=Zm (Qk bad x):=by
   cases x<;>simp only[Qk]<;>first | rfl | (split<;>rfl) | (cases hs)
  rw[hs'] at hid
  rw[(YY hs (fun k=>k) bad).2.2.2.2.1]
  exact ZgU bad x id hid
 ·cases x with
  | tup vs=>
   obtain⟨y,hy,hid⟩:=List.mem_flatMap.1 hid
   obtain⟨x,hx,rfl⟩:=List.mem_map.1 hy
   obtain⟨h1,h2⟩:=Zd5 bad x id hid
   exact⟨List.mem_flatMap.2 ⟨x,hx,h1⟩,h2⟩
  | agg cs=>exact Zd4 bad cs id hid
  | clo f cs=>exact Zd4 bad cs id hid
  | d x=>simp[kill,Z0,Qk,ZF,ZG,Zm] at hid
  | _=>exact absurd rfl hs
end
theorem ZaT (hp:Hp):∀ (n:Nat) (todo acc:List Nat),acc.Nodup→(QX hp n todo acc).Nodup∧(∀ id∈acc,id∈QX hp n todo acc)∧(∀ id∈QX hp n todo acc,id∈acc∨∃ o,lkp hp id=some o)
 | 0,todo,acc,h=>by simp only[QX];exact⟨h,fun _ h=>h,fun _ h=>.inl h⟩
 | n+1,[],acc,h=>by simp only[QX];exact⟨h,fun _ h=>h,fun _ h=>.inl h⟩
 | n+1,id :: todo,acc,h=>by
  simp only[QX]
  split
  ·exact ZaT hp n todo acc h
  ·rename_i hc
   cases hl:lkp hp id with
   | none=>simp only[JW];exact ZaT hp n todo acc h
   | some o=>
    simp only[JW]
    have hnd:(acc++[id]).Nodup:=by
     rw[List.nodup_append]
     refine⟨h,by simp,?_⟩
     intro a ha b hb
     simp at hb
     subst hb
     intro e
     subst e
     simp at hc
     exact hc ha
    obtain⟨h1,h2,h3⟩:=ZaT hp n (todo++ZaS o) (acc++[id]) hnd
    refine⟨h1,fun x hx=>h2 x (by simp[hx]),fun x hx=>?_⟩
    rcases h3 x hx with h4 | h4
    ·simp at h4
     rcases h4 with h4 | rfl
     ·exact .inl h4
     ·exact .inr ⟨o,hl⟩
    ·exact .inr h4
theorem ZhR:∀ {ids:List Nat} {id:Nat},id∈ids→Wu ids id<ids.length∧ids[Wu ids id]?=some id
 | [],_,h=>by simp at h
 | x :: r,id,h=>by
  simp only[Wu]
  split
  ·rename_i e;subst e;simp
  ·rename_i e
   rcases List.mem_cons.1 h with h | h
   ·exact absurd h.symm e
   ·obtain⟨h1,h2⟩:=ZhR h
    exact⟨by simp;omega,by simpa using h2⟩
theorem ZfP:∀ {ids:List Nat},ids.Nodup→∀ {k id:Nat},ids[k]?=some id→Wu ids id=k
 | [],_,k,id,h=>by simp at h
 | x :: r,hn,k,id,h=>by
  rw[List.nodup_cons] at hn
  cases k with
  | zero=>simp at h;subst h;simp[Wu]
  | succ k=>
   simp at h
   have hne:x≠id:=fun e=>hn.1 (e ▸ List.mem_of_getElem? h)
   simp only[Wu,if_neg hne,ZfP hn.2 h]
def Zvy {α:Type} (b:Option α):Option α→Option α
 | some v=>some v
 | none=>b
theorem ZhS {α:Type}:∀ (l:List (Nat×α)) (k:Nat) (v:α) (t:Nat),lkp (l++[(k,v)]) t=Zvy (if k=t then some v else none) (lkp l t)
 | [],k,v,t=>by simp[lkp,Zvy]
 | (j,x) :: l,k,v,t=>by
  by_cases h:j=t
  ·simp[lkp,h,Zvy]
  ·simp[lkp,h,ZhS l k v t]
theorem Vr:∀ (l:List Zl) (k i:Nat),lkp (V5 k l) i=if k≤i then l[i-k]? else none
 | [],k,i=>by simp[V5,lkp]
 | o :: r,k,i=>by
  simp only[V5,ZhS,Vr r]
  by_cases h1:k=i
  ·subst h1;simp[Zvy,Nat.not_succ_le_self]
  ·by_cases h2:k≤i
   ·rw[if_neg h1,if_pos (by omega),if_pos h2]
    have:i-k=(i-(k+1))+1:=by omega
    rw[this];simp;cases r[i-(k+1)]? <;> rfl
   ·rw[if_neg h1,if_neg (by omega),if_neg h2];rfl
theorem Zb2 (hp:Hp):∀ (ids:List Nat) (k:Nat),(Zcb hp ids)[k]?=(ids[k]?).map fun id=>Zh8 (lkp hp id)
 | [],k=>by simp[Zcb]
 | id :: r,0=>by simp[Zcb]
 | id :: r,k+1=>by simp[Zcb,Zb2 hp r k]
end Go.Abs
