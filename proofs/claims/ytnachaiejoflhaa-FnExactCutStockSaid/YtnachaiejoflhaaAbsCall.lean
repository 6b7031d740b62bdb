/- Own text. -/
import Derived.Test.YtnachaiejoflhaaAbsStep8
set_option linter.unusedVariables false
set_option linter.unusedSimpArgs false
namespace Go.Abs
open Go
section
variable {Γ Γ' : Gh} {w w' : World} {I I' : Nat→Prop}
def AV.small:AV→Bool
 | .d _=>false
 | .agg _=>false
 | .tup _=>false
 | .clo _ _=>false
 | _=>true
theorem YU {x:AV} (hs:x.small=true) (v:Value):(Rep Γ w I x v=XB Γ w I x v)∧(V9 Γ w I x v=XB Γ w I x v)∧(QV Γ w I x v=XB Γ w I x v):=by
 cases x<;>first | exact⟨rfl,rfl,rfl⟩ | cases hs
theorem Xm {x:AV} (hs:x.small=true) (g:Nat→Nat) (bad:List Nat) :
  ren g x=ZaN g x∧Zap g x=ZaN g x∧kill bad x=ZT bad x∧ZG bad x=ZT bad x∧Zo x=Zi x∧Zs x=Zi x:=by
 cases x<;>first | exact⟨rfl,rfl,rfl,rfl,rfl,rfl⟩ | cases hs
def WY (Γ Γ' : Gh) (g:Nat→Nat) (ids:List Nat):Prop:=∀ id∈ids,∀ r,Γ id=some r→Γ' (g id)=some r
theorem Zes {g:Nat→Nat} {x:AV} {v:Value} (hg:WY Γ Γ' g (Zi x)) (hk:ZH I I' w w') (h:XB Γ w I x v):XB Γ' w' I' (ZaN g x) v:=by
 cases x with
 | d x=>exact⟨h.1,h.2.mono hk⟩
 | nil=>exact h
 | nilp=>exact h
 | nili=>exact h
 | ptr id off=>obtain⟨b,h1,h2⟩:=h;exact⟨b,hg id (by simp[Zi]) _ h1,h2⟩
 | prow id sz i off=>obtain⟨b,n,c,h1,h2⟩:=h;exact⟨b,n,c,hg id (by simp[Zi]) _ h1,h2⟩
 | pim cs=>obtain⟨b,o,vs,h1,h2,h3,h4⟩:=h;exact⟨b,o,vs,h1,hk.sub b h2,h3.mono (hk.blk b h2),h4.mono hk⟩
 | own id=>obtain⟨a,n,c,sz,h1,h2⟩:=h;exact⟨a,n,c,sz,hg id (by simp[Zi]) _ h1,h2⟩
 | ownv id off n=>obtain⟨a0,m,c,sz,a,h1,h2⟩:=h;exact⟨a0,m,c,sz,a,hg id (by simp[Zi]) _ h1,h2⟩
 | bnil id e=>obtain⟨b,h1,h2⟩:=h;exact⟨b,hg id (by simp[Zi]) _ h1,h2⟩
 | bbuf a b=>exact h
 | agg cs=>exact h.elim
 | tup cs=>exact h.elim
 | clo f cs=>exact h.elim
 | junk=>exact trivial
theorem Zet {g:Nat→Nat}:∀ {xs:List AV} {vs:List Value},WY Γ Γ' g (xs.flatMap Zi)→ZH I I' w w'→Zp (XB Γ w I) xs vs→Zp (XB Γ' w' I') (xs.map (ZaN g)) vs
 | [],[],_,_,_=>trivial
 | [],_ :: _,_,_,h=>h.elim
 | _ :: _,[],_,_,h=>h.elim
 | x :: xs,v :: vs,hg,hk,h=>⟨Zes (fun id aa=>hg id (by simp[aa])) hk h.1,Zet (fun id aa=>hg id (by simp only[Kv,Kd];exact .inr aa)) hk h.2⟩
theorem Zrs {g:Nat→Nat} {x:AV} {v:Value} (hg:WY Γ Γ' g (Zs x)) (hk:ZH I I' w w') (h:QV Γ w I x v):QV Γ' w' I' (Zap g x) v:=by
 by_cases hs:x.small=true
 ·rw[(Xm hs g []).2.2.2.2.2] at hg;rw[(YU hs v).2.2] at h;rw[(Xm hs g []).2.1];exact(Zes hg hk h).repB
 ·cases x with
  | clo f cs=>obtain⟨us,h1,h2⟩:=h;exact⟨us,h1,Zet hg hk h2⟩
  | agg cs=>exact h.elim
  | tup cs=>exact h.elim
  | d x=>exact⟨h.1,h.2.mono hk⟩
  | _=>exact absurd rfl hs
theorem Zhj {g:Nat→Nat} {x:AV} {v:Value} (hg:WY Γ Γ' g (Zs x)) (hk:ZH I I' w w') (h:V9 Γ w I x v):V9 Γ' w' I' (Zap g x) v:=by
 by_cases hs:x.small=true
 ·rw[(Xm hs g []).2.2.2.2.2] at hg;rw[(YU hs v).2.1] at h;rw[(Xm hs g []).2.1];exact(Zes hg hk h).rep2
 ·cases x with
  | clo f cs=>obtain⟨us,h1,h2⟩:=h;exact⟨us,h1,Zet hg hk h2⟩
  | agg cs=>obtain⟨us,h1,h2⟩:=h;exact⟨us,h1,Zet hg hk h2⟩
  | tup cs=>exact h.elim
  | d x=>exact ZlR.2 ((ZlR.1 h).mono hk)
  | _=>exact absurd rfl hs
theorem Zkk {g:Nat→Nat}:∀ {xs:List AV} {vs:List Value},WY Γ Γ' g (xs.flatMap Zs)→ZH I I' w w'→Zp (V9 Γ w I) xs vs→Zp (V9 Γ' w' I') (xs.map (Zap g)) vs
 | [],[],_,_,_=>trivial
 | [],_ :: _,_,_,h=>h.elim
 | _ :: _,[],_,_,h=>h.elim
 | x :: xs,v :: vs,hg,hk,h=>⟨Zhj (fun id aa=>hg id (by simp only[Kv,Kd];exact .inl aa)) hk h.1,Zkk (fun id aa=>hg id (by simp only[Kv,Kd];exact .inr aa)) hk h.2⟩
theorem Zaq {g:Nat→Nat}:∀ {xs:List AV} {vs:List Value},WY Γ Γ' g (xs.flatMap Zs)→ZH I I' w w'→Zp (QV Γ w I) xs vs→Zp (QV Γ' w' I') (xs.map (Zap g)) vs
 | [],[],_,_,_=>trivial
 | [],_ :: _,_,_,h=>h.elim
 | _ :: _,[],_,_,h=>h.elim
 | x :: xs,v :: vs,hg,hk,h=>⟨Zrs (fun id aa=>hg id (by simp only[Kv,Kd];exact .inl aa)) hk h.1,Zaq (fun id aa=>hg id (by simp only[Kv,Kd];exact .inr aa)) hk h.2⟩
theorem Zg4 {g:Nat→Nat} {x:AV} {v:Value} (hg:WY Γ Γ' g (Zo x)) (hk:ZH I I' w w') (h:Rep Γ w I x v):Rep Γ' w' I' (ren g x) v:=by
 by_cases hs:x.small=true
 ·rw[(Xm hs g []).2.2.2.2.1] at hg;rw[(YU hs v).1] at h;rw[(Xm hs g []).1];exact(Zes hg hk h).rep2.rep
 ·cases x with
  | tup vs=>obtain⟨us,h1,h2⟩:=h;exact⟨us,h1,Zkk hg hk h2⟩
  | clo f cs=>exact Zhj (g:=g) (x:=.clo f cs) hg hk h
  | agg cs=>exact Zhj (g:=g) (x:=.agg cs) hg hk h
  | d x=>exact QL.2 ((QL.1 h).mono hk)
  | _=>exact absurd rfl hs
theorem ZcS {bad:List Nat} {x:AV} {v:Value} (h:XB Γ w I x v):XB Γ w I (ZT bad x) v:=by
 cases x<;>simp only[ZT]<;>first | exact h | (split<;>first | exact trivial | exact h)
theorem Zfn {bad:List Nat} {xs:List AV} {vs:List Value} (h:Zp (XB Γ w I) xs vs):Zp (XB Γ w I) (xs.map (ZT bad)) vs:=h.map_left fun _ _ h=>ZcS h
theorem Zfo {bad:List Nat} {x:AV} {v:Value} (h:QV Γ w I x v):QV Γ w I (ZG bad x) v:=by
 by_cases hs:x.small=true
 ·rw[(YU hs v).2.2] at h;rw[(Xm hs id bad).2.2.2.1];exact(ZcS h).repB
 ·cases x with
  | clo f cs=>obtain⟨us,h1,h2⟩:=h;exact⟨us,h1,Zfn h2⟩
  | agg cs=>exact h.elim
  | tup cs=>exact h.elim
  | d x=>exact h
  | _=>exact absurd rfl hs
theorem Zfp {bad:List Nat} {x:AV} {v:Value} (h:V9 Γ w I x v):V9 Γ w I (ZG bad x) v:=by
 by_cases hs:x.small=true
 ·rw[(YU hs v).2.1] at h;rw[(Xm hs id bad).2.2.2.1];exact(ZcS h).rep2
 ·cases x with
  | clo f cs=>obtain⟨us,h1,h2⟩:=h;exact⟨us,h1,Zfn h2⟩
  | agg cs=>obtain⟨us,h1,h2⟩:=h;exact⟨us,h1,Zfn h2⟩
  | tup cs=>exact h.elim
  | d x=>exact h
  | _=>exact absurd rfl hs
theorem ZmD {bad:List Nat} {x:AV} {v:Value} (h:Rep Γ w I x v):Rep Γ w I (kill bad x) v:=by
 by_cases hs:x.small=true
 ·rw[(YU hs v).1] at h;rw[(Xm hs id bad).2.2.1];exact(ZcS h).rep2.rep
 ·cases x with
  | tup vs=>obtain⟨us,h1,h2⟩:=h;exact⟨us,h1,h2.map_left fun _ _ h=>Zfp h⟩
  | clo f cs=>exact(Zfp (bad:=bad) (x:=.clo f cs) h).rep
  | agg cs=>exact(Zfp (bad:=bad) (x:=.agg cs) h).rep
  | d x=>exact h
  | _=>exact absurd rfl hs
theorem ZdN (bad:List Nat) (x:AV):∀ id∈Zi (ZT bad x),id∈Zi x∧id∉bad:=by
 intro id aa;cases x<;>simp only[ZT] at aa<;>first
  | (simp[Zi] at aa;done)
  | (split at aa
     ·simp [Zi] at aa
     ·rename_i hb;simp[Zi] at aa hb ⊢;first | (subst aa;simpa using hb) | (rcases aa with rfl | rfl<;>simp[hb]))
theorem ZaO (bad:List Nat) (xs:List AV):∀ id∈(xs.map (ZT bad)).flatMap Zi,id∈xs.flatMap Zi∧id∉bad:=by
 intro id aa;obtain⟨y,hy,aa⟩:=Kk.1 aa;obtain⟨x,hx,rfl⟩:=K4.1 hy;obtain⟨h1,h2⟩:=ZdN bad x id aa;exact⟨Kk.2 ⟨x,hx,h1⟩,h2⟩
theorem ZdO (bad:List Nat) (x:AV):∀ id∈Zs (ZG bad x),id∈Zs x∧id∉bad:=by
 intro id aa;by_cases hs:x.small=true
 ·rw[(Xm hs (fun k=>k) bad).2.2.2.1] at aa;have ab : Zs (ZT bad x)=Zi (ZT bad x):=by
   cases x<;>simp only[ZT]<;>first | rfl | (split<;>rfl) | (cases hs)
  rw[ab] at aa;rw[(Xm hs (fun k=>k) bad).2.2.2.2.2];exact ZdN bad x id aa
 ·cases x with
  | agg cs=>exact ZaO bad cs id aa
  | clo f cs=>exact ZaO bad cs id aa
  | tup cs=>simp[ZG,ZT,Zs,Zi] at aa
  | d x=>simp[ZG,ZT,Zs,Zi] at aa
  | _=>exact absurd rfl hs
theorem Zkl (bad:List Nat) (x:AV):∀ id∈Zo (kill bad x),id∈Zo x∧id∉bad:=by
 intro id aa;by_cases hs:x.small=true
 ·rw[(Xm hs (fun k=>k) bad).2.2.1] at aa;have ab : Zo (ZT bad x)=Zi (ZT bad x):=by
   cases x<;>simp only[ZT]<;>first | rfl | (split<;>rfl) | (cases hs)
  rw[ab] at aa;rw[(Xm hs (fun k=>k) bad).2.2.2.2.1];exact ZdN bad x id aa
 ·cases x with
  | tup vs=>
   obtain⟨y,hy,aa⟩:=Kk.1 aa;obtain⟨x,hx,rfl⟩:=K4.1 hy;obtain⟨h1,h2⟩:=ZdO bad x id aa;exact⟨Kk.2 ⟨x,hx,h1⟩,h2⟩
  | agg cs=>exact ZaO bad cs id aa
  | clo f cs=>exact ZaO bad cs id aa
  | d x=>simp[kill,ZG,ZT,Zo,Zs,Zi] at aa
  | _=>exact absurd rfl hs
end
theorem VY (hp:Hp):∀ (n:Nat) (todo aa:List Nat),aa.Nodup→(Qy hp n todo aa).Nodup∧(∀ id∈aa,id∈Qy hp n todo aa)∧(∀ id∈Qy hp n todo aa,id∈aa∨∃ o,lkp hp id=some o)
 | 0,todo,aa,h=>by simp only[Qy];exact⟨h,fun _ h=>h,fun _ h=>.inl h⟩
 | n+1,[],aa,h=>by simp only[Qy];exact⟨h,fun _ h=>h,fun _ h=>.inl h⟩
 | n+1,id :: todo,aa,h=>by
  simp only[Qy];split
  ·exact VY hp n todo aa h
  ·rename_i hc;cases hl:lkp hp id with
   | none=>simp only[V7];exact VY hp n todo aa h
   | some o=>
    simp only[V7];have ab:(aa++[id]).Nodup:=by
     rw[Lz];refine⟨h,by simp,?_⟩;intro a ha b hb;simp at hb;subst hb;intro e;subst e;simp at hc;exact hc ha
    obtain⟨h1,h2,h3⟩:=VY hp n (todo++VX o) (aa++[id]) ab;refine⟨h1,fun x hx=>h2 x (by simp[hx]),fun x hx=>?_⟩;rcases h3 x hx with h4 | h4
    ·simp at h4;rcases h4 with h4 | rfl
     ·exact .inl h4
     ·exact .inr ⟨o,hl⟩
    ·exact .inr h4
theorem Zeu:∀ {ids:List Nat} {id:Nat},id∈ids→Yl ids id<ids.length∧ids[Yl ids id]?=some id
 | [],_,h=>by simp at h
 | x :: r,id,h=>by
  simp only[Yl];split
  ·rename_i e;subst e;simp
  ·rename_i e;rcases Kf.1 h with h | h
   ·exact absurd h.symm e
   ·obtain⟨h1,h2⟩:=Zeu h;exact⟨by simp;omega,by simpa using h2⟩
theorem ZcT:∀ {ids:List Nat},ids.Nodup→∀ {k id:Nat},ids[k]?=some id→Yl ids id=k
 | [],_,k,id,h=>by simp at h
 | x :: r,hn,k,id,h=>by
  rw[KX] at hn;cases k with
  | zero=>simp at h;subst h;simp[Yl]
  | succ k=>
   simp at h;have aa:x≠id:=fun e=>hn.1 (e ▸ Ke h);simp only[Yl,Kn aa,ZcT hn.2 h]
def Zqi {α:Type} (b:Option α):Option α→Option α
 | some v=>some v
 | none=>b
theorem Zev {α:Type}:∀ (l:List (Nat×α)) (k:Nat) (v:α) (t:Nat),lkp (l++[(k,v)]) t=Zqi (if k=t then some v else none) (lkp l t)
 | [],k,v,t=>by simp[lkp,Zqi]
 | (j,x) :: l,k,v,t=>by
  by_cases h:j=t
  ·simp[lkp,h,Zqi]
  ·simp[lkp,h,Zev l k v t]
theorem VZ:∀ (l:List Zk) (k i:Nat),lkp (YF k l) i=if k≤i then l[i-k]? else none
 | [],k,i=>by simp[YF,lkp]
 | o :: r,k,i=>by
  simp only[YF,Zev,VZ r];by_cases h1:k=i
  ·subst h1;simp[Zqi,Nat.not_succ_le_self]
  ·by_cases h2:k≤i
   ·rw[Kn h1,Kt (by omega),Kt h2];have:i-k=(i-(k+1))+1:=by omega
    rw[this];simp;cases r[i-(k+1)]? <;> rfl
   ·rw[Kn h1,Kn (by omega),Kn h2];rfl
theorem Zhk (hp:Hp):∀ (ids:List Nat) (k:Nat),(J1 hp ids)[k]?=(ids[k]?).map fun id=>Znd (lkp hp id)
 | [],k=>by simp[J1]
 | id :: r,0=>by simp[J1]
 | id :: r,k+1=>by simp[J1,Zhk hp r k]
end Go.Abs
