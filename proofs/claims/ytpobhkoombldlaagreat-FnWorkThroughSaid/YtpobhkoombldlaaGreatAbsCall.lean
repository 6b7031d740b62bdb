/- The abstract semantics and the model: names told anew,objects handed over. Own text. -/
import Derived.Test.YtpobhkoombldlaaGreatAbsStep8
set_option linter.unusedVariables false
set_option linter.unusedSimpArgs false
namespace Go.Abs
open Go
section
variable {Γ Γ' : Gh} {w w' : World} {I I' : Nat→Prop}
def AV.small:AV→Bool
 | .d _=>false
 | .agg _=>false
 | .tup _=>false
 | .clo _ _=>false
 | _=>true
theorem Jh {x:AV} (hs:x.small=true) (v:Value):(Rep Γ w I x v=Wn Γ w I x v)∧(Za1 Γ w I x v=Wn Γ w I x v)∧(Vm Γ w I x v=Wn Γ w I x v):=by
 cases x<;>first | exact⟨rfl,rfl,rfl⟩ | cases hs
theorem Vv {x:AV} (hs:x.small=true) (g:Nat→Nat) (bad:List Nat) :
  ren g x=Zhi g x∧Zhj g x=Zhi g x∧kill bad x=Qr bad x∧Z9 bad x=Qr bad x∧ZJ x=Zq x∧ZK x=Zq x:=by
 cases x<;>first | exact⟨rfl,rfl,rfl,rfl,rfl,rfl⟩ | cases hs
def Zch (Γ Γ' : Gh) (g:Nat→Nat) (ids:List Nat):Prop:=∀ id∈ids,∀ r,Γ id=some r→Γ' (g id)=some r
theorem Zlb {g:Nat→Nat} {x:AV} {v:Value} (hg:Zch Γ Γ' g (Zq x)) (hk:ZY I I' w w') (h:Wn Γ w I x v):Wn Γ' w' I' (Zhi g x) v:=by
 cases x with
 | d x=>exact⟨h.1,h.2.mono hk⟩
 | nil=>exact h
 | nilp=>exact h
 | nili=>exact h
 | ptr id off=>obtain⟨b,h1,h2⟩:=h;exact⟨b,hg id (by simp[Zq]) _ h1,h2⟩
 | prow id sz i off=>obtain⟨b,n,c,h1,h2⟩:=h;exact⟨b,n,c,hg id (by simp[Zq]) _ h1,h2⟩
 | pim cs=>obtain⟨b,o,vs,h1,h2,h3,h4⟩:=h;exact⟨b,o,vs,h1,hk.sub b h2,h3.mono (hk.blk b h2),h4.mono hk⟩
 | own id=>obtain⟨a,n,c,sz,h1,h2⟩:=h;exact⟨a,n,c,sz,hg id (by simp[Zq]) _ h1,h2⟩
 | ownv id off n=>obtain⟨a0,m,c,sz,a,h1,h2⟩:=h;exact⟨a0,m,c,sz,a,hg id (by simp[Zq]) _ h1,h2⟩
 | sub id nm=>obtain⟨⟨r,h0⟩,a,n,c,sz,h1,h2⟩:=h;exact⟨⟨r,hg id (by simp[Zq]) _ h0⟩,a,n,c,sz,hg nm (by simp[Zq]) _ h1,h2⟩
 | agg cs=>exact h.elim
 | tup cs=>exact h.elim
 | clo f cs=>exact h.elim
 | junk=>exact trivial
theorem Zlc {g:Nat→Nat}:∀ {xs:List AV} {vs:List Value},Zch Γ Γ' g (xs.flatMap Zq)→ZY I I' w w'→ZB (Wn Γ w I) xs vs→ZB (Wn Γ' w' I') (xs.map (Zhi g)) vs
 | [],[],_,_,_=>trivial
 | [],_ :: _,_,_,h=>h.elim
 | _ :: _,[],_,_,h=>h.elim
 | x :: xs,v :: vs,hg,hk,h=>⟨Zlb (fun id hid=>hg id (by simp[hid])) hk h.1,Zlc (fun id hid=>hg id (by simp only[List.flatMap_cons,List.mem_append];exact .inr hid)) hk h.2⟩
theorem ZzI {g:Nat→Nat} {x:AV} {v:Value} (hg:Zch Γ Γ' g (ZK x)) (hk:ZY I I' w w') (h:Vm Γ w I x v):Vm Γ' w' I' (Zhj g x) v:=by
 by_cases hs:x.small=true
 ·rw[(Vv hs g []).2.2.2.2.2] at hg
  rw[(Jh hs v).2.2] at h
  rw[(Vv hs g []).2.1]
  exact(Zlb hg hk h).repB
 ·cases x with
  | clo f cs=>obtain⟨us,h1,h2⟩:=h;exact⟨us,h1,Zlc hg hk h2⟩
  | agg cs=>exact h.elim
  | tup cs=>exact h.elim
  | d x=>exact⟨h.1,h.2.mono hk⟩
  | _=>exact absurd rfl hs
theorem Zo4 {g:Nat→Nat} {x:AV} {v:Value} (hg:Zch Γ Γ' g (ZK x)) (hk:ZY I I' w w') (h:Za1 Γ w I x v):Za1 Γ' w' I' (Zhj g x) v:=by
 by_cases hs:x.small=true
 ·rw[(Vv hs g []).2.2.2.2.2] at hg
  rw[(Jh hs v).2.1] at h
  rw[(Vv hs g []).2.1]
  exact(Zlb hg hk h).rep2
 ·cases x with
  | clo f cs=>obtain⟨us,h1,h2⟩:=h;exact⟨us,h1,Zlc hg hk h2⟩
  | agg cs=>obtain⟨us,h1,h2⟩:=h;exact⟨us,h1,Zlc hg hk h2⟩
  | tup cs=>exact h.elim
  | d x=>exact ZtZ.2 ((ZtZ.1 h).mono hk)
  | _=>exact absurd rfl hs
theorem Zsn {g:Nat→Nat}:∀ {xs:List AV} {vs:List Value},Zch Γ Γ' g (xs.flatMap ZK)→ZY I I' w w'→ZB (Za1 Γ w I) xs vs→ZB (Za1 Γ' w' I') (xs.map (Zhj g)) vs
 | [],[],_,_,_=>trivial
 | [],_ :: _,_,_,h=>h.elim
 | _ :: _,[],_,_,h=>h.elim
 | x :: xs,v :: vs,hg,hk,h=>⟨Zo4 (fun id hid=>hg id (by simp only[List.flatMap_cons,List.mem_append];exact .inl hid)) hk h.1,Zsn (fun id hid=>hg id (by simp only[List.flatMap_cons,List.mem_append];exact .inr hid)) hk h.2⟩
theorem Zfb {g:Nat→Nat}:∀ {xs:List AV} {vs:List Value},Zch Γ Γ' g (xs.flatMap ZK)→ZY I I' w w'→ZB (Vm Γ w I) xs vs→ZB (Vm Γ' w' I') (xs.map (Zhj g)) vs
 | [],[],_,_,_=>trivial
 | [],_ :: _,_,_,h=>h.elim
 | _ :: _,[],_,_,h=>h.elim
 | x :: xs,v :: vs,hg,hk,h=>⟨ZzI (fun id hid=>hg id (by simp only[List.flatMap_cons,List.mem_append];exact .inl hid)) hk h.1,Zfb (fun id hid=>hg id (by simp only[List.flatMap_cons,List.mem_append];exact .inr hid)) hk h.2⟩
theorem ZoS {g:Nat→Nat} {x:AV} {v:Value} (hg:Zch Γ Γ' g (ZJ x)) (hk:ZY I I' w w') (h:Rep Γ w I x v):Rep Γ' w' I' (ren g x) v:=by
 by_cases hs:x.small=true
 ·rw[(Vv hs g []).2.2.2.2.1] at hg
  rw[(Jh hs v).1] at h
  rw[(Vv hs g []).1]
  exact(Zlb hg hk h).rep2.rep
 ·cases x with
  | tup vs=>obtain⟨us,h1,h2⟩:=h;exact⟨us,h1,Zsn hg hk h2⟩
  | clo f cs=>exact Zo4 (g:=g) (x:=.clo f cs) hg hk h
  | agg cs=>exact Zo4 (g:=g) (x:=.agg cs) hg hk h
  | d x=>exact YO.2 ((YO.1 h).mono hk)
  | _=>exact absurd rfl hs
theorem ZiS {bad:List Nat} {x:AV} {v:Value} (h:Wn Γ w I x v):Wn Γ w I (Qr bad x) v:=by
 cases x<;>simp only[Qr]<;>first | exact h | (split<;>first | exact trivial | exact h)
theorem ZmA {bad:List Nat} {xs:List AV} {vs:List Value} (h:ZB (Wn Γ w I) xs vs):ZB (Wn Γ w I) (xs.map (Qr bad)) vs:=h.map_left fun _ _ h=>ZiS h
theorem ZmB {bad:List Nat} {x:AV} {v:Value} (h:Vm Γ w I x v):Vm Γ w I (Z9 bad x) v:=by
 by_cases hs:x.small=true
 ·rw[(Jh hs v).2.2] at h
  rw[(Vv hs id bad).2.2.2.1]
  exact(ZiS h).repB
 ·cases x with
  | clo f cs=>obtain⟨us,h1,h2⟩:=h;exact⟨us,h1,ZmA h2⟩
  | agg cs=>exact h.elim
  | tup cs=>exact h.elim
  | d x=>exact h
  | _=>exact absurd rfl hs
theorem ZmC {bad:List Nat} {x:AV} {v:Value} (h:Za1 Γ w I x v):Za1 Γ w I (Z9 bad x) v:=by
 by_cases hs:x.small=true
 ·rw[(Jh hs v).2.1] at h
  rw[(Vv hs id bad).2.2.2.1]
  exact(ZiS h).rep2
 ·cases x with
  | clo f cs=>obtain⟨us,h1,h2⟩:=h;exact⟨us,h1,ZmA h2⟩
  | agg cs=>obtain⟨us,h1,h2⟩:=h;exact⟨us,h1,ZmA h2⟩
  | tup cs=>exact h.elim
  | d x=>exact h
  | _=>exact absurd rfl hs
theorem ZuP {bad:List Nat} {x:AV} {v:Value} (h:Rep Γ w I x v):Rep Γ w I (kill bad x) v:=by
 by_cases hs:x.small=true
 ·rw[(Jh hs v).1] at h
  rw[(Vv hs id bad).2.2.1]
  exact(ZiS h).rep2.rep
 ·cases x with
  | tup vs=>obtain⟨us,h1,h2⟩:=h;exact⟨us,h1,h2.map_left fun _ _ h=>ZmC h⟩
  | clo f cs=>exact(ZmC (bad:=bad) (x:=.clo f cs) h).rep
  | agg cs=>exact(ZmC (bad:=bad) (x:=.agg cs) h).rep
  | d x=>exact h
  | _=>exact absurd rfl hs
theorem Zkw (bad:List Nat) (x:AV):∀ id∈Zq (Qr bad x),id∈Zq x∧id∉bad:=by
 intro id hid
 cases x<;>simp only[Qr] at hid<;>first
  | (simp[Zq] at hid;done)
  | (split at hid
     ·simp [Zq] at hid
     ·rename_i hb;simp[Zq] at hid hb ⊢;first | (subst hid;simpa using hb) | (rcases hid with rfl | rfl<;>simp[hb]))
theorem Zf2 (bad:List Nat) (xs:List AV):∀ id∈(xs.map (Qr bad)).flatMap Zq,id∈xs.flatMap Zq∧id∉bad:=by
 intro id hid
 obtain⟨y,hy,hid⟩:=List.mem_flatMap.1 hid
 obtain⟨x,hx,rfl⟩:=List.mem_map.1 hy
 obtain⟨h1,h2⟩:=Zkw bad x id hid
 exact⟨List.mem_flatMap.2 ⟨x,hx,h1⟩,h2⟩
theorem Zf3 (bad:List Nat) (x:AV):∀ id∈ZK (Z9 bad x),id∈ZK x∧id∉bad:=by
 intro id hid
 by_cases hs:x.small=true
 ·rw[(Vv hs (fun k=>k) bad).2.2.2.1] at hid
  have hs' : ZK (Qr bad x)=Zq (Qr bad x):=by
   cases x<;>simp only[Qr]<;>first | rfl | (split<;>rfl) | (cases hs)
  rw[hs'] at hid
  rw[(Vv hs (fun k=>k) bad).2.2.2.2.2]
  exact Zkw bad x id hid
 ·cases x with
  | agg cs=>exact Zf2 bad cs id hid
  | clo f cs=>exact Zf2 bad cs id hid
  | tup cs=>simp[Z9,Qr,ZK,Zq] at hid
  | d x=>simp[Z9,Qr,ZK,Zq] at hid
  | _=>exact absurd rfl hs
theorem ZmD (bad:List Nat) (x:AV):∀ id∈ZJ (kill bad x),id∈ZJ x∧id∉bad:=by
 intro id hid
 by_cases hs:x.small=true
 ·rw[(Vv hs (fun k=>k) bad).2.2.1] at hid
  have hs' : ZJ (Qr bad x)=Zq (Qr bad x):=by
   cases x<;>simp only[Qr]<;>first | rfl | (split<;>rfl) | (cases hs)
  rw[hs'] at hid
  rw[(Vv hs (fun k=>k) bad).2.2.2.2.1]
  exact Zkw bad x id hid
 ·cases x with
  | tup vs=>
   obtain⟨y,hy,hid⟩:=List.mem_flatMap.1 hid
   obtain⟨x,hx,rfl⟩:=List.mem_map.1 hy
   obtain⟨h1,h2⟩:=Zf3 bad x id hid
   exact⟨List.mem_flatMap.2 ⟨x,hx,h1⟩,h2⟩
  | agg cs=>exact Zf2 bad cs id hid
  | clo f cs=>exact Zf2 bad cs id hid
  | d x=>simp[kill,Z9,Qr,ZJ,ZK,Zq] at hid
  | _=>exact absurd rfl hs
end
theorem Zcw (hp:Hp):∀ (n:Nat) (todo acc:List Nat),acc.Nodup→(Q0 hp n todo acc).Nodup∧(∀ id∈acc,id∈Q0 hp n todo acc)∧(∀ id∈Q0 hp n todo acc,id∈acc∨∃ o,lkp hp id=some o)
 | 0,todo,acc,h=>by simp only[Q0];exact⟨h,fun _ h=>h,fun _ h=>.inl h⟩
 | n+1,[],acc,h=>by simp only[Q0];exact⟨h,fun _ h=>h,fun _ h=>.inl h⟩
 | n+1,id :: todo,acc,h=>by
  simp only[Q0]
  split
  ·exact Zcw hp n todo acc h
  ·rename_i hc
   cases hl:lkp hp id with
   | none=>simp only[ZaU];exact Zcw hp n todo acc h
   | some o=>
    simp only[ZaU]
    have hnd:(acc++[id]).Nodup:=by
     rw[List.nodup_append]
     refine⟨h,by simp,?_⟩
     intro a ha b hb
     simp at hb
     subst hb
     intro e
     subst e
     simp at hc
     exact hc ha
    obtain⟨h1,h2,h3⟩:=Zcw hp n (todo++Zcv o) (acc++[id]) hnd
    refine⟨h1,fun x hx=>h2 x (by simp[hx]),fun x hx=>?_⟩
    rcases h3 x hx with h4 | h4
    ·simp at h4
     rcases h4 with h4 | rfl
     ·exact .inl h4
     ·exact .inr ⟨o,hl⟩
    ·exact .inr h4
theorem Zld:∀ {ids:List Nat} {id:Nat},id∈ids→Uy ids id<ids.length∧ids[Uy ids id]?=some id
 | [],_,h=>by simp at h
 | x :: r,id,h=>by
  simp only[Uy]
  split
  ·rename_i e;subst e;simp
  ·rename_i e
   rcases List.mem_cons.1 h with h | h
   ·exact absurd h.symm e
   ·obtain⟨h1,h2⟩:=Zld h
    exact⟨by simp;omega,by simpa using h2⟩
theorem ZiT:∀ {ids:List Nat},ids.Nodup→∀ {k id:Nat},ids[k]?=some id→Uy ids id=k
 | [],_,k,id,h=>by simp at h
 | x :: r,hn,k,id,h=>by
  rw[List.nodup_cons] at hn
  cases k with
  | zero=>simp at h;subst h;simp[Uy]
  | succ k=>
   simp at h
   have hne:x≠id:=fun e=>hn.1 (e ▸ List.mem_of_getElem? h)
   simp only[Uy,if_neg hne,ZiT hn.2 h]
def Zys {α:Type} (b:Option α):Option α→Option α
 | some v=>some v
 | none=>b
theorem Zle {α:Type}:∀ (l:List (Nat×α)) (k:Nat) (v:α) (t:Nat),lkp (l++[(k,v)]) t=Zys (if k=t then some v else none) (lkp l t)
 | [],k,v,t=>by simp[lkp,Zys]
 | (j,x) :: l,k,v,t=>by
  by_cases h:j=t
  ·simp[lkp,h,Zys]
  ·simp[lkp,h,Zle l k v t]
theorem W6:∀ (l:List Zt) (k i:Nat),lkp (Uu k l) i=if k≤i then l[i-k]? else none
 | [],k,i=>by simp[Uu,lkp]
 | o :: r,k,i=>by
  simp only[Uu,Zle,W6 r]
  by_cases h1:k=i
  ·subst h1;simp[Zys,Nat.not_succ_le_self]
  ·by_cases h2:k≤i
   ·rw[if_neg h1,if_pos (by omega),if_pos h2]
    have:i-k=(i-(k+1))+1:=by omega
    rw[this];simp;cases r[i-(k+1)]? <;> rfl
   ·rw[if_neg h1,if_neg (by omega),if_neg h2];rfl
theorem ZdL (hp:Hp):∀ (ids:List Nat) (k:Nat),(ZdV hp ids)[k]?=(ids[k]?).map fun id=>Zlv (lkp hp id)
 | [],k=>by simp[ZdV]
 | id :: r,0=>by simp[ZdV]
 | id :: r,k+1=>by simp[ZdV,ZdL hp r k]
end Go.Abs
