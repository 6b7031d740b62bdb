/- Own text. -/
import Derived.Test.YtnachaiejoflhaaAbsStep8
set_option linter.unusedVariables false
set_option linter.unusedSimpArgs false
namespace Go.Abs
open Go
section
variable {Γ Γ' : Gh} {w w' : World} {I I' : Nat→Prop}
def AV.small:AV→Bool
 | .d _=>false
 | .agg _=>false
 | .tup _=>false
 | .clo _ _=>false
 | _=>true
theorem YK {x:AV} (hs:x.small=true) (v:Value):(Rep Γ w I x v=Xu Γ w I x v)∧(VT Γ w I x v=Xu Γ w I x v)∧(QV Γ w I x v=Xu Γ w I x v):=by
 cases x<;>first | exact⟨rfl,rfl,rfl⟩ | cases hs
theorem Xj {x:AV} (hs:x.small=true) (g:Nat→Nat) (bad:List Nat) :
  ren g x=Zai g x∧JR g x=Zai g x∧kill bad x=ZS bad x∧ZD bad x=ZS bad x∧Zn x=Zf x∧Zq x=Zf x:=by
 cases x<;>first | exact⟨rfl,rfl,rfl,rfl,rfl,rfl⟩ | cases hs
def WE (Γ Γ' : Gh) (g:Nat→Nat) (ids:List Nat):Prop:=∀ id∈ids,∀ r,Γ id=some r→Γ' (g id)=some r
theorem ZdK {g:Nat→Nat} {x:AV} {v:Value} (hg:WE Γ Γ' g (Zf x)) (hk:ZE I I' w w') (h:Xu Γ w I x v):Xu Γ' w' I' (Zai g x) v:=by
 cases x with
 | d x=>exact⟨h.1,h.2.mono hk⟩
 | nil=>exact h
 | nilp=>exact h
 | nili=>exact h
 | ptr id off=>obtain⟨b,h1,h2⟩:=h;exact⟨b,hg id (by simp[Zf]) _ h1,h2⟩
 | prow id sz i off=>obtain⟨b,n,c,h1,h2⟩:=h;exact⟨b,n,c,hg id (by simp[Zf]) _ h1,h2⟩
 | pim cs=>obtain⟨b,o,vs,h1,h2,h3,h4⟩:=h;exact⟨b,o,vs,h1,hk.sub b h2,h3.mono (hk.blk b h2),h4.mono hk⟩
 | own id=>obtain⟨a,n,c,sz,h1,h2⟩:=h;exact⟨a,n,c,sz,hg id (by simp[Zf]) _ h1,h2⟩
 | ownv id off n=>obtain⟨a0,m,c,sz,a,h1,h2⟩:=h;exact⟨a0,m,c,sz,a,hg id (by simp[Zf]) _ h1,h2⟩
 | bnil id e=>obtain⟨b,h1,h2⟩:=h;exact⟨b,hg id (by simp[Zf]) _ h1,h2⟩
 | bbuf a b=>exact h
 | agg cs=>exact h.elim
 | tup cs=>exact h.elim
 | clo f cs=>exact h.elim
 | junk=>exact trivial
theorem ZdL {g:Nat→Nat}:∀ {xs:List AV} {vs:List Value},WE Γ Γ' g (xs.flatMap Zf)→ZE I I' w w'→Zp (Xu Γ w I) xs vs→Zp (Xu Γ' w' I') (xs.map (Zai g)) vs
 | [],[],_,_,_=>trivial
 | [],_ :: _,_,_,h=>h.elim
 | _ :: _,[],_,_,h=>h.elim
 | x :: xs,v :: vs,hg,hk,h=>⟨ZdK (fun id aa=>hg id (by simp[aa])) hk h.1,ZdL (fun id aa=>hg id (by simp only[Kv,Kc];exact .inr aa)) hk h.2⟩
theorem Zp7 {g:Nat→Nat} {x:AV} {v:Value} (hg:WE Γ Γ' g (Zq x)) (hk:ZE I I' w w') (h:QV Γ w I x v):QV Γ' w' I' (JR g x) v:=by
 by_cases hs:x.small=true
 ·rw[(Xj hs g []).2.2.2.2.2] at hg;rw[(YK hs v).2.2] at h;rw[(Xj hs g []).2.1];exact(ZdK hg hk h).repB
 ·cases x with
  | clo f cs=>obtain⟨us,h1,h2⟩:=h;exact⟨us,h1,ZdL hg hk h2⟩
  | agg cs=>exact h.elim
  | tup cs=>exact h.elim
  | d x=>exact⟨h.1,h.2.mono hk⟩
  | _=>exact absurd rfl hs
theorem ZgA {g:Nat→Nat} {x:AV} {v:Value} (hg:WE Γ Γ' g (Zq x)) (hk:ZE I I' w w') (h:VT Γ w I x v):VT Γ' w' I' (JR g x) v:=by
 by_cases hs:x.small=true
 ·rw[(Xj hs g []).2.2.2.2.2] at hg;rw[(YK hs v).2.1] at h;rw[(Xj hs g []).2.1];exact(ZdK hg hk h).rep2
 ·cases x with
  | clo f cs=>obtain⟨us,h1,h2⟩:=h;exact⟨us,h1,ZdL hg hk h2⟩
  | agg cs=>obtain⟨us,h1,h2⟩:=h;exact⟨us,h1,ZdL hg hk h2⟩
  | tup cs=>exact h.elim
  | d x=>exact ZkJ.2 ((ZkJ.1 h).mono hk)
  | _=>exact absurd rfl hs
theorem Zjf {g:Nat→Nat}:∀ {xs:List AV} {vs:List Value},WE Γ Γ' g (xs.flatMap Zq)→ZE I I' w w'→Zp (VT Γ w I) xs vs→Zp (VT Γ' w' I') (xs.map (JR g)) vs
 | [],[],_,_,_=>trivial
 | [],_ :: _,_,_,h=>h.elim
 | _ :: _,[],_,_,h=>h.elim
 | x :: xs,v :: vs,hg,hk,h=>⟨ZgA (fun id aa=>hg id (by simp only[Kv,Kc];exact .inl aa)) hk h.1,Zjf (fun id aa=>hg id (by simp only[Kv,Kc];exact .inr aa)) hk h.2⟩
theorem JS {g:Nat→Nat}:∀ {xs:List AV} {vs:List Value},WE Γ Γ' g (xs.flatMap Zq)→ZE I I' w w'→Zp (QV Γ w I) xs vs→Zp (QV Γ' w' I') (xs.map (JR g)) vs
 | [],[],_,_,_=>trivial
 | [],_ :: _,_,_,h=>h.elim
 | _ :: _,[],_,_,h=>h.elim
 | x :: xs,v :: vs,hg,hk,h=>⟨Zp7 (fun id aa=>hg id (by simp only[Kv,Kc];exact .inl aa)) hk h.1,JS (fun id aa=>hg id (by simp only[Kv,Kc];exact .inr aa)) hk h.2⟩
theorem Zgl {g:Nat→Nat} {x:AV} {v:Value} (hg:WE Γ Γ' g (Zn x)) (hk:ZE I I' w w') (h:Rep Γ w I x v):Rep Γ' w' I' (ren g x) v:=by
 by_cases hs:x.small=true
 ·rw[(Xj hs g []).2.2.2.2.1] at hg;rw[(YK hs v).1] at h;rw[(Xj hs g []).1];exact(ZdK hg hk h).rep2.rep
 ·cases x with
  | tup vs=>obtain⟨us,h1,h2⟩:=h;exact⟨us,h1,Zjf hg hk h2⟩
  | clo f cs=>exact ZgA (g:=g) (x:=.clo f cs) hg hk h
  | agg cs=>exact ZgA (g:=g) (x:=.agg cs) hg hk h
  | d x=>exact QM.2 ((QM.1 h).mono hk)
  | _=>exact absurd rfl hs
theorem Zch {bad:List Nat} {x:AV} {v:Value} (h:Xu Γ w I x v):Xu Γ w I (ZS bad x) v:=by
 cases x<;>simp only[ZS]<;>first | exact h | (split<;>first | exact trivial | exact h)
theorem ZeC {bad:List Nat} {xs:List AV} {vs:List Value} (h:Zp (Xu Γ w I) xs vs):Zp (Xu Γ w I) (xs.map (ZS bad)) vs:=h.map_left fun _ _ h=>Zch h
theorem ZeD {bad:List Nat} {x:AV} {v:Value} (h:QV Γ w I x v):QV Γ w I (ZD bad x) v:=by
 by_cases hs:x.small=true
 ·rw[(YK hs v).2.2] at h;rw[(Xj hs id bad).2.2.2.1];exact(Zch h).repB
 ·cases x with
  | clo f cs=>obtain⟨us,h1,h2⟩:=h;exact⟨us,h1,ZeC h2⟩
  | agg cs=>exact h.elim
  | tup cs=>exact h.elim
  | d x=>exact h
  | _=>exact absurd rfl hs
theorem ZeE {bad:List Nat} {x:AV} {v:Value} (h:VT Γ w I x v):VT Γ w I (ZD bad x) v:=by
 by_cases hs:x.small=true
 ·rw[(YK hs v).2.1] at h;rw[(Xj hs id bad).2.2.2.1];exact(Zch h).rep2
 ·cases x with
  | clo f cs=>obtain⟨us,h1,h2⟩:=h;exact⟨us,h1,ZeC h2⟩
  | agg cs=>obtain⟨us,h1,h2⟩:=h;exact⟨us,h1,ZeC h2⟩
  | tup cs=>exact h.elim
  | d x=>exact h
  | _=>exact absurd rfl hs
theorem Zlp {bad:List Nat} {x:AV} {v:Value} (h:Rep Γ w I x v):Rep Γ w I (kill bad x) v:=by
 by_cases hs:x.small=true
 ·rw[(YK hs v).1] at h;rw[(Xj hs id bad).2.2.1];exact(Zch h).rep2.rep
 ·cases x with
  | tup vs=>obtain⟨us,h1,h2⟩:=h;exact⟨us,h1,h2.map_left fun _ _ h=>ZeE h⟩
  | clo f cs=>exact(ZeE (bad:=bad) (x:=.clo f cs) h).rep
  | agg cs=>exact(ZeE (bad:=bad) (x:=.agg cs) h).rep
  | d x=>exact h
  | _=>exact absurd rfl hs
theorem Zc3 (bad:List Nat) (x:AV):∀ id∈Zf (ZS bad x),id∈Zf x∧id∉bad:=by
 intro id aa;cases x<;>simp only[ZS] at aa<;>first
  | (simp[Zf] at aa;done)
  | (split at aa
     ·simp [Zf] at aa
     ·rename_i hb;simp[Zf] at aa hb ⊢;first | (subst aa;simpa using hb) | (rcases aa with rfl | rfl<;>simp[hb]))
theorem Zaj (bad:List Nat) (xs:List AV):∀ id∈(xs.map (ZS bad)).flatMap Zf,id∈xs.flatMap Zf∧id∉bad:=by
 intro id aa;obtain⟨y,hy,aa⟩:=Kk.1 aa;obtain⟨x,hx,rfl⟩:=KX.1 hy;obtain⟨h1,h2⟩:=Zc3 bad x id aa;exact⟨Kk.2 ⟨x,hx,h1⟩,h2⟩
theorem Zc4 (bad:List Nat) (x:AV):∀ id∈Zq (ZD bad x),id∈Zq x∧id∉bad:=by
 intro id aa;by_cases hs:x.small=true
 ·rw[(Xj hs (fun k=>k) bad).2.2.2.1] at aa;have ab : Zq (ZS bad x)=Zf (ZS bad x):=by
   cases x<;>simp only[ZS]<;>first | rfl | (split<;>rfl) | (cases hs)
  rw[ab] at aa;rw[(Xj hs (fun k=>k) bad).2.2.2.2.2];exact Zc3 bad x id aa
 ·cases x with
  | agg cs=>exact Zaj bad cs id aa
  | clo f cs=>exact Zaj bad cs id aa
  | tup cs=>simp[ZD,ZS,Zq,Zf] at aa
  | d x=>simp[ZD,ZS,Zq,Zf] at aa
  | _=>exact absurd rfl hs
theorem Zjg (bad:List Nat) (x:AV):∀ id∈Zn (kill bad x),id∈Zn x∧id∉bad:=by
 intro id aa;by_cases hs:x.small=true
 ·rw[(Xj hs (fun k=>k) bad).2.2.1] at aa;have ab : Zn (ZS bad x)=Zf (ZS bad x):=by
   cases x<;>simp only[ZS]<;>first | rfl | (split<;>rfl) | (cases hs)
  rw[ab] at aa;rw[(Xj hs (fun k=>k) bad).2.2.2.2.1];exact Zc3 bad x id aa
 ·cases x with
  | tup vs=>
   obtain⟨y,hy,aa⟩:=Kk.1 aa;obtain⟨x,hx,rfl⟩:=KX.1 hy;obtain⟨h1,h2⟩:=Zc4 bad x id aa;exact⟨Kk.2 ⟨x,hx,h1⟩,h2⟩
  | agg cs=>exact Zaj bad cs id aa
  | clo f cs=>exact Zaj bad cs id aa
  | d x=>simp[kill,ZD,ZS,Zn,Zq,Zf] at aa
  | _=>exact absurd rfl hs
end
theorem VH (hp:Hp):∀ (n:Nat) (todo aa:List Nat),aa.Nodup→(Qz hp n todo aa).Nodup∧(∀ id∈aa,id∈Qz hp n todo aa)∧(∀ id∈Qz hp n todo aa,id∈aa∨∃ o,lkp hp id=some o)
 | 0,todo,aa,h=>by simp only[Qz];exact⟨h,fun _ h=>h,fun _ h=>.inl h⟩
 | n+1,[],aa,h=>by simp only[Qz];exact⟨h,fun _ h=>h,fun _ h=>.inl h⟩
 | n+1,id :: todo,aa,h=>by
  simp only[Qz];split
  ·exact VH hp n todo aa h
  ·rename_i hc;cases hl:lkp hp id with
   | none=>simp only[VQ];exact VH hp n todo aa h
   | some o=>
    simp only[VQ];have ab:(aa++[id]).Nodup:=by
     rw[Lv];refine⟨h,by simp,?_⟩;intro a ha b hb;simp at hb;subst hb;intro e;subst e;simp at hc;exact hc ha
    obtain⟨h1,h2,h3⟩:=VH hp n (todo++VG o) (aa++[id]) ab;refine⟨h1,fun x hx=>h2 x (by simp[hx]),fun x hx=>?_⟩;rcases h3 x hx with h4 | h4
    ·simp at h4;rcases h4 with h4 | rfl
     ·exact .inl h4
     ·exact .inr ⟨o,hl⟩
    ·exact .inr h4
theorem ZdM:∀ {ids:List Nat} {id:Nat},id∈ids→Ye ids id<ids.length∧ids[Ye ids id]?=some id
 | [],_,h=>by simp at h
 | x :: r,id,h=>by
  simp only[Ye];split
  ·rename_i e;subst e;simp
  ·rename_i e;rcases Ke.1 h with h | h
   ·exact absurd h.symm e
   ·obtain⟨h1,h2⟩:=ZdM h;exact⟨by simp;omega,by simpa using h2⟩
theorem Zci:∀ {ids:List Nat},ids.Nodup→∀ {k id:Nat},ids[k]?=some id→Ye ids id=k
 | [],_,k,id,h=>by simp at h
 | x :: r,hn,k,id,h=>by
  rw[KW] at hn;cases k with
  | zero=>simp at h;subst h;simp[Ye]
  | succ k=>
   simp at h;have aa:x≠id:=fun e=>hn.1 (e ▸ Kg h);simp only[Ye,Ko aa,Zci hn.2 h]
def ZoX {α:Type} (b:Option α):Option α→Option α
 | some v=>some v
 | none=>b
theorem ZdN {α:Type}:∀ (l:List (Nat×α)) (k:Nat) (v:α) (t:Nat),lkp (l++[(k,v)]) t=ZoX (if k=t then some v else none) (lkp l t)
 | [],k,v,t=>by simp[lkp,ZoX]
 | (j,x) :: l,k,v,t=>by
  by_cases h:j=t
  ·simp[lkp,h,ZoX]
  ·simp[lkp,h,ZdN l k v t]
theorem VI:∀ (l:List Zj) (k i:Nat),lkp (Yw k l) i=if k≤i then l[i-k]? else none
 | [],k,i=>by simp[Yw,lkp]
 | o :: r,k,i=>by
  simp only[Yw,ZdN,VI r];by_cases h1:k=i
  ·subst h1;simp[ZoX,Nat.not_succ_le_self]
  ·by_cases h2:k≤i
   ·rw[Ko h1,Kt (by omega),Kt h2];have:i-k=(i-(k+1))+1:=by omega
    rw[this];simp;cases r[i-(k+1)]? <;> rfl
   ·rw[Ko h1,Ko (by omega),Ko h2];rfl
theorem ZgB (hp:Hp):∀ (ids:List Nat) (k:Nat),(JA hp ids)[k]?=(ids[k]?).map fun id=>ZlX (lkp hp id)
 | [],k=>by simp[JA]
 | id :: r,0=>by simp[JA]
 | id :: r,k+1=>by simp[JA,ZgB hp r k]
end Go.Abs
