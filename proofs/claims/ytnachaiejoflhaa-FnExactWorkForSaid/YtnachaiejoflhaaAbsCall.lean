/- Own text. -/
import Derived.Test.YtnachaiejoflhaaAbsStep8
set_option linter.unusedVariables false
set_option linter.unusedSimpArgs false
namespace Go.Abs
open Go
section
variable {Γ Γ' : Gh} {w w' : World} {I I' : Nat→Prop}
def AV.small:AV→Bool
 | .d _=>false
 | .agg _=>false
 | .tup _=>false
 | .clo _ _=>false
 | _=>true
theorem Ye {x:AV} (hs:x.small=true) (v:Value):(Rep Γ w I x v=Xc Γ w I x v)∧(Vt Γ w I x v=Xc Γ w I x v)∧(QJ Γ w I x v=Xc Γ w I x v):=by
 cases x<;>first | exact⟨rfl,rfl,rfl⟩ | cases hs
theorem Q3 {x:AV} (hs:x.small=true) (g:Nat→Nat) (bad:List Nat) :
  ren g x=JL g x∧Jb g x=JL g x∧kill bad x=ZN bad x∧Zy bad x=ZN bad x∧Zl x=Ze x∧Zn x=Ze x:=by
 cases x<;>first | exact⟨rfl,rfl,rfl,rfl,rfl,rfl⟩ | cases hs
def V5 (Γ Γ' : Gh) (g:Nat→Nat) (ids:List Nat):Prop:=∀ id∈ids,∀ r,Γ id=some r→Γ' (g id)=some r
theorem ZcL {g:Nat→Nat} {x:AV} {v:Value} (hg:V5 Γ Γ' g (Ze x)) (hk:Zz I I' w w') (h:Xc Γ w I x v):Xc Γ' w' I' (JL g x) v:=by
 cases x with
 | d x=>exact⟨h.1,h.2.mono hk⟩
 | nil=>exact h
 | nilp=>exact h
 | nili=>exact h
 | ptr id off=>obtain⟨b,h1,h2⟩:=h;exact⟨b,hg id (by simp[Ze]) _ h1,h2⟩
 | prow id sz i off=>obtain⟨b,n,c,h1,h2⟩:=h;exact⟨b,n,c,hg id (by simp[Ze]) _ h1,h2⟩
 | pim cs=>obtain⟨b,o,vs,h1,h2,h3,h4⟩:=h;exact⟨b,o,vs,h1,hk.sub b h2,h3.mono (hk.blk b h2),h4.mono hk⟩
 | own id=>obtain⟨a,n,c,sz,h1,h2⟩:=h;exact⟨a,n,c,sz,hg id (by simp[Ze]) _ h1,h2⟩
 | ownv id off n=>obtain⟨a0,m,c,sz,a,h1,h2⟩:=h;exact⟨a0,m,c,sz,a,hg id (by simp[Ze]) _ h1,h2⟩
 | bnil id e=>obtain⟨b,h1,h2⟩:=h;exact⟨b,hg id (by simp[Ze]) _ h1,h2⟩
 | bbuf a b=>exact h
 | agg cs=>exact h.elim
 | tup cs=>exact h.elim
 | clo f cs=>exact h.elim
 | junk=>exact trivial
theorem ZcM {g:Nat→Nat}:∀ {xs:List AV} {vs:List Value},V5 Γ Γ' g (xs.flatMap Ze)→Zz I I' w w'→Zm (Xc Γ w I) xs vs→Zm (Xc Γ' w' I') (xs.map (JL g)) vs
 | [],[],_,_,_=>trivial
 | [],_ :: _,_,_,h=>h.elim
 | _ :: _,[],_,_,h=>h.elim
 | x :: xs,v :: vs,hg,hk,h=>⟨ZcL (fun id aa=>hg id (by simp[aa])) hk h.1,ZcM (fun id aa=>hg id (by simp only[Kq,Kd];exact .inr aa)) hk h.2⟩
theorem Zpi {g:Nat→Nat} {x:AV} {v:Value} (hg:V5 Γ Γ' g (Zn x)) (hk:Zz I I' w w') (h:QJ Γ w I x v):QJ Γ' w' I' (Jb g x) v:=by
 by_cases hs:x.small=true
 ·rw[(Q3 hs g []).2.2.2.2.2] at hg;rw[(Ye hs v).2.2] at h;rw[(Q3 hs g []).2.1];exact(ZcL hg hk h).repB
 ·cases x with
  | clo f cs=>obtain⟨us,h1,h2⟩:=h;exact⟨us,h1,ZcM hg hk h2⟩
  | agg cs=>exact h.elim
  | tup cs=>exact h.elim
  | d x=>exact⟨h.1,h.2.mono hk⟩
  | _=>exact absurd rfl hs
theorem Zf4 {g:Nat→Nat} {x:AV} {v:Value} (hg:V5 Γ Γ' g (Zn x)) (hk:Zz I I' w w') (h:Vt Γ w I x v):Vt Γ' w' I' (Jb g x) v:=by
 by_cases hs:x.small=true
 ·rw[(Q3 hs g []).2.2.2.2.2] at hg;rw[(Ye hs v).2.1] at h;rw[(Q3 hs g []).2.1];exact(ZcL hg hk h).rep2
 ·cases x with
  | clo f cs=>obtain⟨us,h1,h2⟩:=h;exact⟨us,h1,ZcM hg hk h2⟩
  | agg cs=>obtain⟨us,h1,h2⟩:=h;exact⟨us,h1,ZcM hg hk h2⟩
  | tup cs=>exact h.elim
  | d x=>exact Zj5.2 ((Zj5.1 h).mono hk)
  | _=>exact absurd rfl hs
theorem Zig {g:Nat→Nat}:∀ {xs:List AV} {vs:List Value},V5 Γ Γ' g (xs.flatMap Zn)→Zz I I' w w'→Zm (Vt Γ w I) xs vs→Zm (Vt Γ' w' I') (xs.map (Jb g)) vs
 | [],[],_,_,_=>trivial
 | [],_ :: _,_,_,h=>h.elim
 | _ :: _,[],_,_,h=>h.elim
 | x :: xs,v :: vs,hg,hk,h=>⟨Zf4 (fun id aa=>hg id (by simp only[Kq,Kd];exact .inl aa)) hk h.1,Zig (fun id aa=>hg id (by simp only[Kq,Kd];exact .inr aa)) hk h.2⟩
theorem Jc {g:Nat→Nat}:∀ {xs:List AV} {vs:List Value},V5 Γ Γ' g (xs.flatMap Zn)→Zz I I' w w'→Zm (QJ Γ w I) xs vs→Zm (QJ Γ' w' I') (xs.map (Jb g)) vs
 | [],[],_,_,_=>trivial
 | [],_ :: _,_,_,h=>h.elim
 | _ :: _,[],_,_,h=>h.elim
 | x :: xs,v :: vs,hg,hk,h=>⟨Zpi (fun id aa=>hg id (by simp only[Kq,Kd];exact .inl aa)) hk h.1,Jc (fun id aa=>hg id (by simp only[Kq,Kd];exact .inr aa)) hk h.2⟩
theorem Zfc {g:Nat→Nat} {x:AV} {v:Value} (hg:V5 Γ Γ' g (Zl x)) (hk:Zz I I' w w') (h:Rep Γ w I x v):Rep Γ' w' I' (ren g x) v:=by
 by_cases hs:x.small=true
 ·rw[(Q3 hs g []).2.2.2.2.1] at hg;rw[(Ye hs v).1] at h;rw[(Q3 hs g []).1];exact(ZcL hg hk h).rep2.rep
 ·cases x with
  | tup vs=>obtain⟨us,h1,h2⟩:=h;exact⟨us,h1,Zig hg hk h2⟩
  | clo f cs=>exact Zf4 (g:=g) (x:=.clo f cs) hg hk h
  | agg cs=>exact Zf4 (g:=g) (x:=.agg cs) hg hk h
  | d x=>exact QE.2 ((QE.1 h).mono hk)
  | _=>exact absurd rfl hs
theorem Zbg {bad:List Nat} {x:AV} {v:Value} (h:Xc Γ w I x v):Xc Γ w I (ZN bad x) v:=by
 cases x<;>simp only[ZN]<;>first | exact h | (split<;>first | exact trivial | exact h)
theorem ZdI {bad:List Nat} {xs:List AV} {vs:List Value} (h:Zm (Xc Γ w I) xs vs):Zm (Xc Γ w I) (xs.map (ZN bad)) vs:=h.map_left fun _ _ h=>Zbg h
theorem ZdJ {bad:List Nat} {x:AV} {v:Value} (h:QJ Γ w I x v):QJ Γ w I (Zy bad x) v:=by
 by_cases hs:x.small=true
 ·rw[(Ye hs v).2.2] at h;rw[(Q3 hs id bad).2.2.2.1];exact(Zbg h).repB
 ·cases x with
  | clo f cs=>obtain⟨us,h1,h2⟩:=h;exact⟨us,h1,ZdI h2⟩
  | agg cs=>exact h.elim
  | tup cs=>exact h.elim
  | d x=>exact h
  | _=>exact absurd rfl hs
theorem ZdK {bad:List Nat} {x:AV} {v:Value} (h:Vt Γ w I x v):Vt Γ w I (Zy bad x) v:=by
 by_cases hs:x.small=true
 ·rw[(Ye hs v).2.1] at h;rw[(Q3 hs id bad).2.2.2.1];exact(Zbg h).rep2
 ·cases x with
  | clo f cs=>obtain⟨us,h1,h2⟩:=h;exact⟨us,h1,ZdI h2⟩
  | agg cs=>obtain⟨us,h1,h2⟩:=h;exact⟨us,h1,ZdI h2⟩
  | tup cs=>exact h.elim
  | d x=>exact h
  | _=>exact absurd rfl hs
theorem ZkS {bad:List Nat} {x:AV} {v:Value} (h:Rep Γ w I x v):Rep Γ w I (kill bad x) v:=by
 by_cases hs:x.small=true
 ·rw[(Ye hs v).1] at h;rw[(Q3 hs id bad).2.2.1];exact(Zbg h).rep2.rep
 ·cases x with
  | tup vs=>obtain⟨us,h1,h2⟩:=h;exact⟨us,h1,h2.map_left fun _ _ h=>ZdK h⟩
  | clo f cs=>exact(ZdK (bad:=bad) (x:=.clo f cs) h).rep
  | agg cs=>exact(ZdK (bad:=bad) (x:=.agg cs) h).rep
  | d x=>exact h
  | _=>exact absurd rfl hs
theorem Zcf (bad:List Nat) (x:AV):∀ id∈Ze (ZN bad x),id∈Ze x∧id∉bad:=by
 intro id aa;cases x<;>simp only[ZN] at aa<;>first
  | (simp[Ze] at aa;done)
  | (split at aa
     ·simp [Ze] at aa
     ·rename_i hb;simp[Ze] at aa hb ⊢;first | (subst aa;simpa using hb) | (rcases aa with rfl | rfl<;>simp[hb]))
theorem JM (bad:List Nat) (xs:List AV):∀ id∈(xs.map (ZN bad)).flatMap Ze,id∈xs.flatMap Ze∧id∉bad:=by
 intro id aa;obtain⟨y,hy,aa⟩:=Kj.1 aa;obtain⟨x,hx,rfl⟩:=KZ.1 hy;obtain⟨h1,h2⟩:=Zcf bad x id aa;exact⟨Kj.2 ⟨x,hx,h1⟩,h2⟩
theorem Zcg (bad:List Nat) (x:AV):∀ id∈Zn (Zy bad x),id∈Zn x∧id∉bad:=by
 intro id aa;by_cases hs:x.small=true
 ·rw[(Q3 hs (fun k=>k) bad).2.2.2.1] at aa;have ab : Zn (ZN bad x)=Ze (ZN bad x):=by
   cases x<;>simp only[ZN]<;>first | rfl | (split<;>rfl) | (cases hs)
  rw[ab] at aa;rw[(Q3 hs (fun k=>k) bad).2.2.2.2.2];exact Zcf bad x id aa
 ·cases x with
  | agg cs=>exact JM bad cs id aa
  | clo f cs=>exact JM bad cs id aa
  | tup cs=>simp[Zy,ZN,Zn,Ze] at aa
  | d x=>simp[Zy,ZN,Zn,Ze] at aa
  | _=>exact absurd rfl hs
theorem Zih (bad:List Nat) (x:AV):∀ id∈Zl (kill bad x),id∈Zl x∧id∉bad:=by
 intro id aa;by_cases hs:x.small=true
 ·rw[(Q3 hs (fun k=>k) bad).2.2.1] at aa;have ab : Zl (ZN bad x)=Ze (ZN bad x):=by
   cases x<;>simp only[ZN]<;>first | rfl | (split<;>rfl) | (cases hs)
  rw[ab] at aa;rw[(Q3 hs (fun k=>k) bad).2.2.2.2.1];exact Zcf bad x id aa
 ·cases x with
  | tup vs=>
   obtain⟨y,hy,aa⟩:=Kj.1 aa;obtain⟨x,hx,rfl⟩:=KZ.1 hy;obtain⟨h1,h2⟩:=Zcg bad x id aa;exact⟨Kj.2 ⟨x,hx,h1⟩,h2⟩
  | agg cs=>exact JM bad cs id aa
  | clo f cs=>exact JM bad cs id aa
  | d x=>simp[kill,Zy,ZN,Zl,Zn,Ze] at aa
  | _=>exact absurd rfl hs
end
theorem Vi (hp:Hp):∀ (n:Nat) (todo aa:List Nat),aa.Nodup→(Qr hp n todo aa).Nodup∧(∀ id∈aa,id∈Qr hp n todo aa)∧(∀ id∈Qr hp n todo aa,id∈aa∨∃ o,lkp hp id=some o)
 | 0,todo,aa,h=>by simp only[Qr];exact⟨h,fun _ h=>h,fun _ h=>.inl h⟩
 | n+1,[],aa,h=>by simp only[Qr];exact⟨h,fun _ h=>h,fun _ h=>.inl h⟩
 | n+1,id :: todo,aa,h=>by
  simp only[Qr];split
  ·exact Vi hp n todo aa h
  ·rename_i hc;cases hl:lkp hp id with
   | none=>simp only[Vr];exact Vi hp n todo aa h
   | some o=>
    simp only[Vr];have ab:(aa++[id]).Nodup:=by
     rw[Lv];refine⟨h,by simp,?_⟩;intro a ha b hb;simp at hb;subst hb;intro e;subst e;simp at hc;exact hc ha
    obtain⟨h1,h2,h3⟩:=Vi hp n (todo++Vh o) (aa++[id]) ab;refine⟨h1,fun x hx=>h2 x (by simp[hx]),fun x hx=>?_⟩;rcases h3 x hx with h4 | h4
    ·simp at h4;rcases h4 with h4 | rfl
     ·exact .inl h4
     ·exact .inr ⟨o,hl⟩
    ·exact .inr h4
theorem ZcN:∀ {ids:List Nat} {id:Nat},id∈ids→XK ids id<ids.length∧ids[XK ids id]?=some id
 | [],_,h=>by simp at h
 | x :: r,id,h=>by
  simp only[XK];split
  ·rename_i e;subst e;simp
  ·rename_i e;rcases Ke.1 h with h | h
   ·exact absurd h.symm e
   ·obtain⟨h1,h2⟩:=ZcN h;exact⟨by simp;omega,by simpa using h2⟩
theorem Zbh:∀ {ids:List Nat},ids.Nodup→∀ {k id:Nat},ids[k]?=some id→XK ids id=k
 | [],_,k,id,h=>by simp at h
 | x :: r,hn,k,id,h=>by
  rw[KY] at hn;cases k with
  | zero=>simp at h;subst h;simp[XK]
  | succ k=>
   simp at h;have aa:x≠id:=fun e=>hn.1 (e ▸ Kk h);simp only[XK,Ko aa,Zbh hn.2 h]
def ZnR {α:Type} (b:Option α):Option α→Option α
 | some v=>some v
 | none=>b
theorem ZcO {α:Type}:∀ (l:List (Nat×α)) (k:Nat) (v:α) (t:Nat),lkp (l++[(k,v)]) t=ZnR (if k=t then some v else none) (lkp l t)
 | [],k,v,t=>by simp[lkp,ZnR]
 | (j,x) :: l,k,v,t=>by
  by_cases h:j=t
  ·simp[lkp,h,ZnR]
  ·simp[lkp,h,ZcO l k v t]
theorem Vj:∀ (l:List Zh) (k i:Nat),lkp (X7 k l) i=if k≤i then l[i-k]? else none
 | [],k,i=>by simp[X7,lkp]
 | o :: r,k,i=>by
  simp only[X7,ZcO,Vj r];by_cases h1:k=i
  ·subst h1;simp[ZnR,Nat.not_succ_le_self]
  ·by_cases h2:k≤i
   ·rw[Ko h1,Kw (by omega),Kw h2];have:i-k=(i-(k+1))+1:=by omega
    rw[this];simp;cases r[i-(k+1)]? <;> rfl
   ·rw[Ko h1,Ko (by omega),Ko h2];rfl
theorem Zf5 (hp:Hp):∀ (ids:List Nat) (k:Nat),(U1 hp ids)[k]?=(ids[k]?).map fun id=>Zlr (lkp hp id)
 | [],k=>by simp[U1]
 | id :: r,0=>by simp[U1]
 | id :: r,k+1=>by simp[U1,Zf5 hp r k]
end Go.Abs
