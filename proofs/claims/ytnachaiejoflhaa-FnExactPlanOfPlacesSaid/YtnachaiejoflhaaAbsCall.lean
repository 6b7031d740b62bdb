/- Own text. -/
import Derived.Test.YtnachaiejoflhaaAbsStep8
set_option linter.unusedVariables false
set_option linter.unusedSimpArgs false
namespace Go.Abs
open Go
section
variable {Γ Γ' : Gh} {w w' : World} {I I' : Nat→Prop}
def AV.small:AV→Bool
 | .d _=>false
 | .agg _=>false
 | .tup _=>false
 | .clo _ _=>false
 | _=>true
theorem Ys {x:AV} (hs:x.small=true) (v:Value):(Rep Γ w I x v=Xo Γ w I x v)∧(Vp Γ w I x v=Xo Γ w I x v)∧(QO Γ w I x v=Xo Γ w I x v):=by
 cases x<;>first | exact⟨rfl,rfl,rfl⟩ | cases hs
theorem Xa {x:AV} (hs:x.small=true) (g:Nat→Nat) (bad:List Nat) :
  ren g x=Jt g x∧U2 g x=Jt g x∧kill bad x=ZK bad x∧Zw bad x=ZK bad x∧Zl x=Ze x∧Zn x=Ze x:=by
 cases x<;>first | exact⟨rfl,rfl,rfl,rfl,rfl,rfl⟩ | cases hs
def V2 (Γ Γ' : Gh) (g:Nat→Nat) (ids:List Nat):Prop:=∀ id∈ids,∀ r,Γ id=some r→Γ' (g id)=some r
theorem Zcy {g:Nat→Nat} {x:AV} {v:Value} (hg:V2 Γ Γ' g (Ze x)) (hk:Zx I I' w w') (h:Xo Γ w I x v):Xo Γ' w' I' (Jt g x) v:=by
 cases x with
 | d x=>exact⟨h.1,h.2.mono hk⟩
 | nil=>exact h
 | nilp=>exact h
 | nili=>exact h
 | ptr id off=>obtain⟨b,h1,h2⟩:=h;exact⟨b,hg id (by simp[Ze]) _ h1,h2⟩
 | prow id sz i off=>obtain⟨b,n,c,h1,h2⟩:=h;exact⟨b,n,c,hg id (by simp[Ze]) _ h1,h2⟩
 | pim cs=>obtain⟨b,o,vs,h1,h2,h3,h4⟩:=h;exact⟨b,o,vs,h1,hk.sub b h2,h3.mono (hk.blk b h2),h4.mono hk⟩
 | own id=>obtain⟨a,n,c,sz,h1,h2⟩:=h;exact⟨a,n,c,sz,hg id (by simp[Ze]) _ h1,h2⟩
 | ownv id off n=>obtain⟨a0,m,c,sz,a,h1,h2⟩:=h;exact⟨a0,m,c,sz,a,hg id (by simp[Ze]) _ h1,h2⟩
 | bnil id e=>obtain⟨b,h1,h2⟩:=h;exact⟨b,hg id (by simp[Ze]) _ h1,h2⟩
 | bbuf a b=>exact h
 | agg cs=>exact h.elim
 | tup cs=>exact h.elim
 | clo f cs=>exact h.elim
 | junk=>exact trivial
theorem Zcz {g:Nat→Nat}:∀ {xs:List AV} {vs:List Value},V2 Γ Γ' g (xs.flatMap Ze)→Zx I I' w w'→Zm (Xo Γ w I) xs vs→Zm (Xo Γ' w' I') (xs.map (Jt g)) vs
 | [],[],_,_,_=>trivial
 | [],_ :: _,_,_,h=>h.elim
 | _ :: _,[],_,_,h=>h.elim
 | x :: xs,v :: vs,hg,hk,h=>⟨Zcy (fun id aa=>hg id (by simp[aa])) hk h.1,Zcz (fun id aa=>hg id (by simp only[Kt,Kc];exact .inr aa)) hk h.2⟩
theorem ZoV {g:Nat→Nat} {x:AV} {v:Value} (hg:V2 Γ Γ' g (Zn x)) (hk:Zx I I' w w') (h:QO Γ w I x v):QO Γ' w' I' (U2 g x) v:=by
 by_cases hs:x.small=true
 ·rw[(Xa hs g []).2.2.2.2.2] at hg;rw[(Ys hs v).2.2] at h;rw[(Xa hs g []).2.1];exact(Zcy hg hk h).repB
 ·cases x with
  | clo f cs=>obtain⟨us,h1,h2⟩:=h;exact⟨us,h1,Zcz hg hk h2⟩
  | agg cs=>exact h.elim
  | tup cs=>exact h.elim
  | d x=>exact⟨h.1,h.2.mono hk⟩
  | _=>exact absurd rfl hs
theorem Zfq {g:Nat→Nat} {x:AV} {v:Value} (hg:V2 Γ Γ' g (Zn x)) (hk:Zx I I' w w') (h:Vp Γ w I x v):Vp Γ' w' I' (U2 g x) v:=by
 by_cases hs:x.small=true
 ·rw[(Xa hs g []).2.2.2.2.2] at hg;rw[(Ys hs v).2.1] at h;rw[(Xa hs g []).2.1];exact(Zcy hg hk h).rep2
 ·cases x with
  | clo f cs=>obtain⟨us,h1,h2⟩:=h;exact⟨us,h1,Zcz hg hk h2⟩
  | agg cs=>obtain⟨us,h1,h2⟩:=h;exact⟨us,h1,Zcz hg hk h2⟩
  | tup cs=>exact h.elim
  | d x=>exact ZjE.2 ((ZjE.1 h).mono hk)
  | _=>exact absurd rfl hs
theorem Zh2 {g:Nat→Nat}:∀ {xs:List AV} {vs:List Value},V2 Γ Γ' g (xs.flatMap Zn)→Zx I I' w w'→Zm (Vp Γ w I) xs vs→Zm (Vp Γ' w' I') (xs.map (U2 g)) vs
 | [],[],_,_,_=>trivial
 | [],_ :: _,_,_,h=>h.elim
 | _ :: _,[],_,_,h=>h.elim
 | x :: xs,v :: vs,hg,hk,h=>⟨Zfq (fun id aa=>hg id (by simp only[Kt,Kc];exact .inl aa)) hk h.1,Zh2 (fun id aa=>hg id (by simp only[Kt,Kc];exact .inr aa)) hk h.2⟩
theorem U3 {g:Nat→Nat}:∀ {xs:List AV} {vs:List Value},V2 Γ Γ' g (xs.flatMap Zn)→Zx I I' w w'→Zm (QO Γ w I) xs vs→Zm (QO Γ' w' I') (xs.map (U2 g)) vs
 | [],[],_,_,_=>trivial
 | [],_ :: _,_,_,h=>h.elim
 | _ :: _,[],_,_,h=>h.elim
 | x :: xs,v :: vs,hg,hk,h=>⟨ZoV (fun id aa=>hg id (by simp only[Kt,Kc];exact .inl aa)) hk h.1,U3 (fun id aa=>hg id (by simp only[Kt,Kc];exact .inr aa)) hk h.2⟩
theorem Ze9 {g:Nat→Nat} {x:AV} {v:Value} (hg:V2 Γ Γ' g (Zl x)) (hk:Zx I I' w w') (h:Rep Γ w I x v):Rep Γ' w' I' (ren g x) v:=by
 by_cases hs:x.small=true
 ·rw[(Xa hs g []).2.2.2.2.1] at hg;rw[(Ys hs v).1] at h;rw[(Xa hs g []).1];exact(Zcy hg hk h).rep2.rep
 ·cases x with
  | tup vs=>obtain⟨us,h1,h2⟩:=h;exact⟨us,h1,Zh2 hg hk h2⟩
  | clo f cs=>exact Zfq (g:=g) (x:=.clo f cs) hg hk h
  | agg cs=>exact Zfq (g:=g) (x:=.agg cs) hg hk h
  | d x=>exact QG.2 ((QG.1 h).mono hk)
  | _=>exact absurd rfl hs
theorem Za7 {bad:List Nat} {x:AV} {v:Value} (h:Xo Γ w I x v):Xo Γ w I (ZK bad x) v:=by
 cases x<;>simp only[ZK]<;>first | exact h | (split<;>first | exact trivial | exact h)
theorem Zdv {bad:List Nat} {xs:List AV} {vs:List Value} (h:Zm (Xo Γ w I) xs vs):Zm (Xo Γ w I) (xs.map (ZK bad)) vs:=h.map_left fun _ _ h=>Za7 h
theorem Zdw {bad:List Nat} {x:AV} {v:Value} (h:QO Γ w I x v):QO Γ w I (Zw bad x) v:=by
 by_cases hs:x.small=true
 ·rw[(Ys hs v).2.2] at h;rw[(Xa hs id bad).2.2.2.1];exact(Za7 h).repB
 ·cases x with
  | clo f cs=>obtain⟨us,h1,h2⟩:=h;exact⟨us,h1,Zdv h2⟩
  | agg cs=>exact h.elim
  | tup cs=>exact h.elim
  | d x=>exact h
  | _=>exact absurd rfl hs
theorem Zdx {bad:List Nat} {x:AV} {v:Value} (h:Vp Γ w I x v):Vp Γ w I (Zw bad x) v:=by
 by_cases hs:x.small=true
 ·rw[(Ys hs v).2.1] at h;rw[(Xa hs id bad).2.2.2.1];exact(Za7 h).rep2
 ·cases x with
  | clo f cs=>obtain⟨us,h1,h2⟩:=h;exact⟨us,h1,Zdv h2⟩
  | agg cs=>obtain⟨us,h1,h2⟩:=h;exact⟨us,h1,Zdv h2⟩
  | tup cs=>exact h.elim
  | d x=>exact h
  | _=>exact absurd rfl hs
theorem Zkj {bad:List Nat} {x:AV} {v:Value} (h:Rep Γ w I x v):Rep Γ w I (kill bad x) v:=by
 by_cases hs:x.small=true
 ·rw[(Ys hs v).1] at h;rw[(Xa hs id bad).2.2.1];exact(Za7 h).rep2.rep
 ·cases x with
  | tup vs=>obtain⟨us,h1,h2⟩:=h;exact⟨us,h1,h2.map_left fun _ _ h=>Zdx h⟩
  | clo f cs=>exact(Zdx (bad:=bad) (x:=.clo f cs) h).rep
  | agg cs=>exact(Zdx (bad:=bad) (x:=.agg cs) h).rep
  | d x=>exact h
  | _=>exact absurd rfl hs
theorem ZbW (bad:List Nat) (x:AV):∀ id∈Ze (ZK bad x),id∈Ze x∧id∉bad:=by
 intro id aa;cases x<;>simp only[ZK] at aa<;>first
  | (simp[Ze] at aa;done)
  | (split at aa
     ·simp [Ze] at aa
     ·rename_i hb;simp[Ze] at aa hb ⊢;first | (subst aa;simpa using hb) | (rcases aa with rfl | rfl<;>simp[hb]))
theorem Ju (bad:List Nat) (xs:List AV):∀ id∈(xs.map (ZK bad)).flatMap Ze,id∈xs.flatMap Ze∧id∉bad:=by
 intro id aa;obtain⟨y,hy,aa⟩:=Kl.1 aa;obtain⟨x,hx,rfl⟩:=KZ.1 hy;obtain⟨h1,h2⟩:=ZbW bad x id aa;exact⟨Kl.2 ⟨x,hx,h1⟩,h2⟩
theorem ZbX (bad:List Nat) (x:AV):∀ id∈Zn (Zw bad x),id∈Zn x∧id∉bad:=by
 intro id aa;by_cases hs:x.small=true
 ·rw[(Xa hs (fun k=>k) bad).2.2.2.1] at aa;have ab : Zn (ZK bad x)=Ze (ZK bad x):=by
   cases x<;>simp only[ZK]<;>first | rfl | (split<;>rfl) | (cases hs)
  rw[ab] at aa;rw[(Xa hs (fun k=>k) bad).2.2.2.2.2];exact ZbW bad x id aa
 ·cases x with
  | agg cs=>exact Ju bad cs id aa
  | clo f cs=>exact Ju bad cs id aa
  | tup cs=>simp[Zw,ZK,Zn,Ze] at aa
  | d x=>simp[Zw,ZK,Zn,Ze] at aa
  | _=>exact absurd rfl hs
theorem Zh3 (bad:List Nat) (x:AV):∀ id∈Zl (kill bad x),id∈Zl x∧id∉bad:=by
 intro id aa;by_cases hs:x.small=true
 ·rw[(Xa hs (fun k=>k) bad).2.2.1] at aa;have ab : Zl (ZK bad x)=Ze (ZK bad x):=by
   cases x<;>simp only[ZK]<;>first | rfl | (split<;>rfl) | (cases hs)
  rw[ab] at aa;rw[(Xa hs (fun k=>k) bad).2.2.2.2.1];exact ZbW bad x id aa
 ·cases x with
  | tup vs=>
   obtain⟨y,hy,aa⟩:=Kl.1 aa;obtain⟨x,hx,rfl⟩:=KZ.1 hy;obtain⟨h1,h2⟩:=ZbX bad x id aa;exact⟨Kl.2 ⟨x,hx,h1⟩,h2⟩
  | agg cs=>exact Ju bad cs id aa
  | clo f cs=>exact Ju bad cs id aa
  | d x=>simp[kill,Zw,ZK,Zl,Zn,Ze] at aa
  | _=>exact absurd rfl hs
end
theorem Vf (hp:Hp):∀ (n:Nat) (todo aa:List Nat),aa.Nodup→(Qq hp n todo aa).Nodup∧(∀ id∈aa,id∈Qq hp n todo aa)∧(∀ id∈Qq hp n todo aa,id∈aa∨∃ o,lkp hp id=some o)
 | 0,todo,aa,h=>by simp only[Qq];exact⟨h,fun _ h=>h,fun _ h=>.inl h⟩
 | n+1,[],aa,h=>by simp only[Qq];exact⟨h,fun _ h=>h,fun _ h=>.inl h⟩
 | n+1,id :: todo,aa,h=>by
  simp only[Qq];split
  ·exact Vf hp n todo aa h
  ·rename_i hc;cases hl:lkp hp id with
   | none=>simp only[Vn];exact Vf hp n todo aa h
   | some o=>
    simp only[Vn];have ab:(aa++[id]).Nodup:=by
     rw[LG];refine⟨h,by simp,?_⟩;intro a ha b hb;simp at hb;subst hb;intro e;subst e;simp at hc;exact hc ha
    obtain⟨h1,h2,h3⟩:=Vf hp n (todo++Ve o) (aa++[id]) ab;refine⟨h1,fun x hx=>h2 x (by simp[hx]),fun x hx=>?_⟩;rcases h3 x hx with h4 | h4
    ·simp at h4;rcases h4 with h4 | rfl
     ·exact .inl h4
     ·exact .inr ⟨o,hl⟩
    ·exact .inr h4
theorem ZcA:∀ {ids:List Nat} {id:Nat},id∈ids→XZ ids id<ids.length∧ids[XZ ids id]?=some id
 | [],_,h=>by simp at h
 | x :: r,id,h=>by
  simp only[XZ];split
  ·rename_i e;subst e;simp
  ·rename_i e;rcases Kf.1 h with h | h
   ·exact absurd h.symm e
   ·obtain⟨h1,h2⟩:=ZcA h;exact⟨by simp;omega,by simpa using h2⟩
theorem Za8:∀ {ids:List Nat},ids.Nodup→∀ {k id:Nat},ids[k]?=some id→XZ ids id=k
 | [],_,k,id,h=>by simp at h
 | x :: r,hn,k,id,h=>by
  rw[K5] at hn;cases k with
  | zero=>simp at h;subst h;simp[XZ]
  | succ k=>
   simp at h;have aa:x≠id:=fun e=>hn.1 (e ▸ Ki h);simp only[XZ,Kk aa,Za8 hn.2 h]
def ZnG {α:Type} (b:Option α):Option α→Option α
 | some v=>some v
 | none=>b
theorem ZcB {α:Type}:∀ (l:List (Nat×α)) (k:Nat) (v:α) (t:Nat),lkp (l++[(k,v)]) t=ZnG (if k=t then some v else none) (lkp l t)
 | [],k,v,t=>by simp[lkp,ZnG]
 | (j,x) :: l,k,v,t=>by
  by_cases h:j=t
  ·simp[lkp,h,ZnG]
  ·simp[lkp,h,ZcB l k v t]
theorem Vg:∀ (l:List Zg) (k i:Nat),lkp (Yh k l) i=if k≤i then l[i-k]? else none
 | [],k,i=>by simp[Yh,lkp]
 | o :: r,k,i=>by
  simp only[Yh,ZcB,Vg r];by_cases h1:k=i
  ·subst h1;simp[ZnG,Nat.not_succ_le_self]
  ·by_cases h2:k≤i
   ·rw[Kk h1,Ko (by omega),Ko h2];have:i-k=(i-(k+1))+1:=by omega
    rw[this];simp;cases r[i-(k+1)]? <;> rfl
   ·rw[Kk h1,Kk (by omega),Kk h2];rfl
theorem Zfr (hp:Hp):∀ (ids:List Nat) (k:Nat),(UN hp ids)[k]?=(ids[k]?).map fun id=>ZkT (lkp hp id)
 | [],k=>by simp[UN]
 | id :: r,0=>by simp[UN]
 | id :: r,k+1=>by simp[UN,Zfr hp r k]
end Go.Abs
