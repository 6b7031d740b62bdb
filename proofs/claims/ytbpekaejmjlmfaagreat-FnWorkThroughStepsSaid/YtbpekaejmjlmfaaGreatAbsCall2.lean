/- Own text. -/
import Derived.Test.YtbpekaejmjlmfaaGreatAbsStep8
set_option linter.unusedVariables false
set_option linter.unusedSimpArgs false
namespace Go.Abs
open Go
section
variable {Γ Γ' : Gh} {w w' : World} {I I' : Nat→Prop}
def AV.small:AV→Bool
 | .d _=>false
 | .agg _=>false
 | .tup _=>false
 | .clo _ _=>false
 | _=>true
theorem UO {x:AV} (hs:x.small=true) (v:Value):(Rep Γ w I x v=Vj Γ w I x v)∧(ZaR Γ w I x v=Vj Γ w I x v)∧(X3 Γ w I x v=Vj Γ w I x v):=by
 cases x<;>first | exact⟨rfl,rfl,rfl⟩ | cases hs
theorem YW {x:AV} (hs:x.small=true) (g:Nat→Nat) (bad:List Nat) :
  ren g x=Zgd g x∧ZeS g x=Zgd g x∧kill bad x=Qh bad x∧ZW bad x=Qh bad x∧Zy x=Zo x∧ZA x=Zo x:=by
 cases x<;>first | exact⟨rfl,rfl,rfl,rfl,rfl,rfl⟩ | cases hs
def ZbJ (Γ Γ' : Gh) (g:Nat→Nat) (ids:List Nat):Prop:=∀ id∈ids,∀ r,Γ id=some r→Γ' (g id)=some r
theorem ZkD {g:Nat→Nat} {x:AV} {v:Value} (hg:ZbJ Γ Γ' g (Zo x)) (hk:ZY I I' w w') (h:Vj Γ w I x v):Vj Γ' w' I' (Zgd g x) v:=by
 cases x with
 | d x=>exact⟨h.1,h.2.mono hk⟩
 | nil=>exact h
 | nilp=>exact h
 | nili=>exact h
 | ptr id off=>obtain⟨b,h1,h2⟩:=h;exact⟨b,hg id (by simp[Zo]) _ h1,h2⟩
 | prow id sz i off=>obtain⟨b,o,n,c,h1,h2⟩:=h;exact⟨b,o,n,c,hg id (by simp[Zo]) _ h1,h2⟩
 | pim cs=>obtain⟨b,o,vs,h1,h2,h3,h4⟩:=h;exact⟨b,o,vs,h1,hk.sub b h2,h3.mono (hk.blk b h2),h4.mono hk⟩
 | own id=>obtain⟨a,n,c,sz,h1,h2⟩:=h;exact⟨a,n,c,sz,hg id (by simp[Zo]) _ h1,h2⟩
 | ownv id off n=>obtain⟨a0,m,c,sz,a,h1,h2⟩:=h;exact⟨a0,m,c,sz,a,hg id (by simp[Zo]) _ h1,h2⟩
 | bnil id e=>obtain⟨b,h1,h2⟩:=h;exact⟨b,hg id (by simp[Zo]) _ h1,h2⟩
 | bbuf a b=>exact h
 | agg cs=>exact h.elim
 | tup cs=>exact h.elim
 | clo f cs=>exact h.elim
 | junk=>exact trivial
theorem ZkE {g:Nat→Nat}:∀ {xs:List AV} {vs:List Value},ZbJ Γ Γ' g (xs.flatMap Zo)→ZY I I' w w'→ZD (Vj Γ w I) xs vs→ZD (Vj Γ' w' I') (xs.map (Zgd g)) vs
 | [],[],_,_,_=>trivial
 | [],_ :: _,_,_,h=>h.elim
 | _ :: _,[],_,_,h=>h.elim
 | x :: xs,v :: vs,hg,hk,h=>⟨ZkD (fun id aa=>hg id (by simp[aa])) hk h.1,ZkE (fun id aa=>hg id (by simp only[KO,Kf];exact .inr aa)) hk h.2⟩
theorem ZBk {g:Nat→Nat} {x:AV} {v:Value} (hg:ZbJ Γ Γ' g (ZA x)) (hk:ZY I I' w w') (h:X3 Γ w I x v):X3 Γ' w' I' (ZeS g x) v:=by
 by_cases hs:x.small=true
 ·rw[(YW hs g []).2.2.2.2.2] at hg;rw[(UO hs v).2.2] at h;rw[(YW hs g []).2.1];exact(ZkD hg hk h).repB
 ·cases x with
  | clo f cs=>obtain⟨us,h1,h2⟩:=h;exact⟨us,h1,ZkE hg hk h2⟩
  | agg cs=>exact h.elim
  | tup cs=>exact h.elim
  | d x=>exact⟨h.1,h.2.mono hk⟩
  | _=>exact absurd rfl hs
theorem Zp5 {g:Nat→Nat} {x:AV} {v:Value} (hg:ZbJ Γ Γ' g (ZA x)) (hk:ZY I I' w w') (h:ZaR Γ w I x v):ZaR Γ' w' I' (ZeS g x) v:=by
 by_cases hs:x.small=true
 ·rw[(YW hs g []).2.2.2.2.2] at hg;rw[(UO hs v).2.1] at h;rw[(YW hs g []).2.1];exact(ZkD hg hk h).rep2
 ·cases x with
  | clo f cs=>obtain⟨us,h1,h2⟩:=h;exact⟨us,h1,ZkE hg hk h2⟩
  | agg cs=>obtain⟨us,h1,h2⟩:=h;exact⟨us,h1,ZkE hg hk h2⟩
  | tup cs=>exact h.elim
  | d x=>exact ZuZ.2 ((ZuZ.1 h).mono hk)
  | _=>exact absurd rfl hs
theorem Zs8 {g:Nat→Nat}:∀ {xs:List AV} {vs:List Value},ZbJ Γ Γ' g (xs.flatMap ZA)→ZY I I' w w'→ZD (ZaR Γ w I) xs vs→ZD (ZaR Γ' w' I') (xs.map (ZeS g)) vs
 | [],[],_,_,_=>trivial
 | [],_ :: _,_,_,h=>h.elim
 | _ :: _,[],_,_,h=>h.elim
 | x :: xs,v :: vs,hg,hk,h=>⟨Zp5 (fun id aa=>hg id (by simp only[KO,Kf];exact .inl aa)) hk h.1,Zs8 (fun id aa=>hg id (by simp only[KO,Kf];exact .inr aa)) hk h.2⟩
theorem Zfi {g:Nat→Nat}:∀ {xs:List AV} {vs:List Value},ZbJ Γ Γ' g (xs.flatMap ZA)→ZY I I' w w'→ZD (X3 Γ w I) xs vs→ZD (X3 Γ' w' I') (xs.map (ZeS g)) vs
 | [],[],_,_,_=>trivial
 | [],_ :: _,_,_,h=>h.elim
 | _ :: _,[],_,_,h=>h.elim
 | x :: xs,v :: vs,hg,hk,h=>⟨ZBk (fun id aa=>hg id (by simp only[KO,Kf];exact .inl aa)) hk h.1,Zfi (fun id aa=>hg id (by simp only[KO,Kf];exact .inr aa)) hk h.2⟩
theorem Zoq {g:Nat→Nat} {x:AV} {v:Value} (hg:ZbJ Γ Γ' g (Zy x)) (hk:ZY I I' w w') (h:Rep Γ w I x v):Rep Γ' w' I' (ren g x) v:=by
 by_cases hs:x.small=true
 ·rw[(YW hs g []).2.2.2.2.1] at hg;rw[(UO hs v).1] at h;rw[(YW hs g []).1];exact(ZkD hg hk h).rep2.rep
 ·cases x with
  | tup vs=>obtain⟨us,h1,h2⟩:=h;exact⟨us,h1,Zs8 hg hk h2⟩
  | clo f cs=>exact Zp5 (g:=g) (x:=.clo f cs) hg hk h
  | agg cs=>exact Zp5 (g:=g) (x:=.agg cs) hg hk h
  | d x=>exact X5.2 ((X5.1 h).mono hk)
  | _=>exact absurd rfl hs
theorem Ziq {bad:List Nat} {x:AV} {v:Value} (h:Vj Γ w I x v):Vj Γ w I (Qh bad x) v:=by
 cases x<;>simp only[Qh]<;>first | exact h | (split<;>first | exact trivial | exact h)
theorem ZlZ {bad:List Nat} {xs:List AV} {vs:List Value} (h:ZD (Vj Γ w I) xs vs):ZD (Vj Γ w I) (xs.map (Qh bad)) vs:=h.map_left fun _ _ h=>Ziq h
theorem Zl0 {bad:List Nat} {x:AV} {v:Value} (h:X3 Γ w I x v):X3 Γ w I (ZW bad x) v:=by
 by_cases hs:x.small=true
 ·rw[(UO hs v).2.2] at h;rw[(YW hs id bad).2.2.2.1];exact(Ziq h).repB
 ·cases x with
  | clo f cs=>obtain⟨us,h1,h2⟩:=h;exact⟨us,h1,ZlZ h2⟩
  | agg cs=>exact h.elim
  | tup cs=>exact h.elim
  | d x=>exact h
  | _=>exact absurd rfl hs
theorem Zl1 {bad:List Nat} {x:AV} {v:Value} (h:ZaR Γ w I x v):ZaR Γ w I (ZW bad x) v:=by
 by_cases hs:x.small=true
 ·rw[(UO hs v).2.1] at h;rw[(YW hs id bad).2.2.2.1];exact(Ziq h).rep2
 ·cases x with
  | clo f cs=>obtain⟨us,h1,h2⟩:=h;exact⟨us,h1,ZlZ h2⟩
  | agg cs=>obtain⟨us,h1,h2⟩:=h;exact⟨us,h1,ZlZ h2⟩
  | tup cs=>exact h.elim
  | d x=>exact h
  | _=>exact absurd rfl hs
theorem Zwc {bad:List Nat} {x:AV} {v:Value} (h:Rep Γ w I x v):Rep Γ w I (kill bad x) v:=by
 by_cases hs:x.small=true
 ·rw[(UO hs v).1] at h;rw[(YW hs id bad).2.2.1];exact(Ziq h).rep2.rep
 ·cases x with
  | tup vs=>obtain⟨us,h1,h2⟩:=h;exact⟨us,h1,h2.map_left fun _ _ h=>Zl1 h⟩
  | clo f cs=>exact(Zl1 (bad:=bad) (x:=.clo f cs) h).rep
  | agg cs=>exact(Zl1 (bad:=bad) (x:=.agg cs) h).rep
  | d x=>exact h
  | _=>exact absurd rfl hs
theorem ZjH (bad:List Nat) (x:AV):∀ id∈Zo (Qh bad x),id∈Zo x∧id∉bad:=by
 intro id aa;cases x<;>simp only[Qh] at aa<;>first
  | (simp[Zo] at aa;done)
  | (split at aa
     ·simp [Zo] at aa
     ·rename_i hb;simp[Zo] at aa hb ⊢;first | (subst aa;simpa using hb) | (rcases aa with rfl | rfl<;>simp[hb]))
theorem Zge (bad:List Nat) (xs:List AV):∀ id∈(xs.map (Qh bad)).flatMap Zo,id∈xs.flatMap Zo∧id∉bad:=by
 intro id aa;obtain⟨y,hy,aa⟩:=Kx.1 aa;obtain⟨x,hx,rfl⟩:=KX.1 hy;obtain⟨h1,h2⟩:=ZjH bad x id aa;exact⟨Kx.2 ⟨x,hx,h1⟩,h2⟩
theorem ZjI (bad:List Nat) (x:AV):∀ id∈ZA (ZW bad x),id∈ZA x∧id∉bad:=by
 intro id aa;by_cases hs:x.small=true
 ·rw[(YW hs (fun k=>k) bad).2.2.2.1] at aa;have ab : ZA (Qh bad x)=Zo (Qh bad x):=by
   cases x<;>simp only[Qh]<;>first | rfl | (split<;>rfl) | (cases hs)
  rw[ab] at aa;rw[(YW hs (fun k=>k) bad).2.2.2.2.2];exact ZjH bad x id aa
 ·cases x with
  | agg cs=>exact Zge bad cs id aa
  | clo f cs=>exact Zge bad cs id aa
  | tup cs=>simp[ZW,Qh,ZA,Zo] at aa
  | d x=>simp[ZW,Qh,ZA,Zo] at aa
  | _=>exact absurd rfl hs
theorem Zs9 (bad:List Nat) (x:AV):∀ id∈Zy (kill bad x),id∈Zy x∧id∉bad:=by
 intro id aa;by_cases hs:x.small=true
 ·rw[(YW hs (fun k=>k) bad).2.2.1] at aa;have ab : Zy (Qh bad x)=Zo (Qh bad x):=by
   cases x<;>simp only[Qh]<;>first | rfl | (split<;>rfl) | (cases hs)
  rw[ab] at aa;rw[(YW hs (fun k=>k) bad).2.2.2.2.1];exact ZjH bad x id aa
 ·cases x with
  | tup vs=>
   obtain⟨y,hy,aa⟩:=Kx.1 aa;obtain⟨x,hx,rfl⟩:=KX.1 hy;obtain⟨h1,h2⟩:=ZjI bad x id aa;exact⟨Kx.2 ⟨x,hx,h1⟩,h2⟩
  | agg cs=>exact Zge bad cs id aa
  | clo f cs=>exact Zge bad cs id aa
  | d x=>simp[kill,ZW,Qh,Zy,ZA,Zo] at aa
  | _=>exact absurd rfl hs
end
theorem ZaN (hp:Hp):∀ (n:Nat) (todo aa:List Nat),aa.Nodup→(Xb hp n todo aa).Nodup∧(∀ id∈aa,id∈Xb hp n todo aa)∧(∀ id∈Xb hp n todo aa,id∈aa∨∃ o,lkp hp id=some o)
 | 0,todo,aa,h=>by simp only[Xb];exact⟨h,fun _ h=>h,fun _ h=>.inl h⟩
 | n+1,[],aa,h=>by simp only[Xb];exact⟨h,fun _ h=>h,fun _ h=>.inl h⟩
 | n+1,id :: todo,aa,h=>by
  simp only[Xb];split
  ·exact ZaN hp n todo aa h
  ·rename_i hc;cases hl:lkp hp id with
   | none=>simp only[ZaZ];exact ZaN hp n todo aa h
   | some o=>
    simp only[ZaZ];have ab:(aa++[id]).Nodup:=by
     rw[LH];refine⟨h,by simp,?_⟩;intro a ha b hb;simp at hb;subst hb;intro e;subst e;simp at hc;exact hc ha
    obtain⟨h1,h2,h3⟩:=ZaN hp n (todo++ZaL o) (aa++[id]) ab;refine⟨h1,fun x hx=>h2 x (by simp[hx]),fun x hx=>?_⟩;rcases h3 x hx with h4 | h4
    ·simp at h4;rcases h4 with h4 | rfl
     ·exact .inl h4
     ·exact .inr ⟨o,hl⟩
    ·exact .inr h4
theorem ZkF:∀ {ids:List Nat} {id:Nat},id∈ids→WK ids id<ids.length∧ids[WK ids id]?=some id
 | [],_,h=>by simp at h
 | x :: r,id,h=>by
  simp only[WK];split
  ·rename_i e;subst e;simp
  ·rename_i e;rcases Kg.1 h with h | h
   ·exact absurd h.symm e
   ·obtain⟨h1,h2⟩:=ZkF h;exact⟨by simp;omega,by simpa using h2⟩
theorem Zir:∀ {ids:List Nat},ids.Nodup→∀ {k id:Nat},ids[k]?=some id→WK ids id=k
 | [],_,k,id,h=>by simp at h
 | x :: r,hn,k,id,h=>by
  rw[KR] at hn;cases k with
  | zero=>simp at h;subst h;simp[WK]
  | succ k=>
   simp at h;have aa:x≠id:=fun e=>hn.1 (e ▸ Kb h);simp only[WK,Ki aa,Zir hn.2 h]
def ZzY {α:Type} (b:Option α):Option α→Option α
 | some v=>some v
 | none=>b
theorem ZkG {α:Type}:∀ (l:List (Nat×α)) (k:Nat) (v:α) (t:Nat),lkp (l++[(k,v)]) t=ZzY (if k=t then some v else none) (lkp l t)
 | [],k,v,t=>by simp[lkp,ZzY]
 | (j,x) :: l,k,v,t=>by
  by_cases h:j=t
  ·simp[lkp,h,ZzY]
  ·simp[lkp,h,ZkG l k v t]
theorem ZaO:∀ (l:List Zn) (k i:Nat),lkp (Um k l) i=if k≤i then l[i-k]? else none
 | [],k,i=>by simp[Um,lkp]
 | o :: r,k,i=>by
  simp only[Um,ZkG,ZaO r];by_cases h1:k=i
  ·subst h1;simp[ZzY,Nat.not_succ_le_self]
  ·by_cases h2:k≤i
   ·rw[Ki h1,Kl (by omega),Kl h2];have:i-k=(i-(k+1))+1:=by omega
    rw[this];simp;cases r[i-(k+1)]? <;> rfl
   ·rw[Ki h1,Ki (by omega),Ki h2];rfl
theorem Zp6 (hp:Hp):∀ (ids:List Nat) (k:Nat),(ZeV hp ids)[k]?=(ids[k]?).map fun id=>ZwP (lkp hp id)
 | [],k=>by simp[ZeV]
 | id :: r,0=>by simp[ZeV]
 | id :: r,k+1=>by simp[ZeV,Zp6 hp r k]
end Go.Abs
set_option linter.unusedVariables false
set_option linter.unusedSimpArgs false
namespace Go.Abs
open Go
structure Pre (F A I:Nat→Prop) (Γ:Gh) (h:List Zn) (as:List AV) (args:List Value) (w:World):Prop where
 args:ZD (Rep Γ w I) as args
 objs:Zbr Γ w I F A (Um 0 h)
 inj:∀ i j o o' b,lkp (Um 0 h) i=some o→lkp (Um 0 h) j=some o'→Blk Γ w i o b→Blk Γ w j o' b→i=j
 bound:∀ b,I b→b<w.heap.size
 fresh:∀ b,w.heap.size≤b→F b
 own:∀ b,F b→A b
 names:∀ id,h.length≤id→Γ id=none
 glob:Zmb I w
structure Back (F A I:Nat→Prop) (Γ:Gh) (w:World) (hs:List Zn) (res:AV) (I' : Nat→Prop) (Γ' : Gh) (v:Value) (w' : World):Prop where
 heads:Qo Γ Γ'
 keeps:ZY I I' w w'
 sub:∀ b,I' b→I b∨F b
 fr:Fr F w w'
 res:Rep Γ' w' I' res v
 objs:Zbr Γ' w' I' F A (Um 0 hs)
 inj:∀ i j o o' b,lkp (Um 0 hs) i=some o→lkp (Um 0 hs) j=some o'→Blk Γ' w' i o b→Blk Γ' w' j o' b→i=j
 bound:∀ b,I' b→b<w'.heap.size
 names:∀ id,hs.length≤id→Γ' id=none
def Enters (P:Program) (f:FuncId):Prop:=∃ fn,P.funcs[f]?=some fn∧(fn.name == "runtime.NumGoroutine")=false∧fn.body.isNone=false
def Zp7 (P:Program) (f:FuncId) (as:List AV) (h:List Zn) (res:AV) (hs:List Zn):Prop:=
 Enters P f∧∀ (F A I:Nat→Prop) (Γ:Gh) (args:List Value) (w:World),Pre F A I Γ h as args w→Calls P f args.toArray w fun e w'=>∃ v I' Γ',e=.returned v∧Back F A I Γ w hs res I' Γ' v w'
def QP (P:Program) (C:Orc):Prop:=∀ f as h res hs,C f as h=some (res,hs)→Zp7 P f as h res hs
section
variable {P:Program} {nt:Nat} {U:Nat→Prop} {F A I:Nat→Prop} {Γ:Gh} {sl:Sl} {hp:Hp} {a:Act} {w:World}
def Zwd (P:Program) (nt:Nat) (F A I:Nat→Prop) (Γ:Gh) (U:Nat→Prop) (sl:Sl) (hp:Hp) (a:Act) (w:World) (o:Oper) (base:Nat) (ce:Zf):Prop:=
 ∀ (K:Act→World→Prop) (Q:Exit→Act→World→Prop),(∀ u w',US nt F A I Γ w (ZaS U base) (ce.on o.dst sl hp).1 (ce.on o.dst sl hp).2 (a.put o.dst u) w'→K (a.put o.dst u) w')→o.wp P a w K Q
theorem Ze4.opWp {o:Oper} {base:Nat} {ce:Zf} (h:Ze4 P nt F A I Γ U sl hp a w o base ce):Zwd P nt F A I Γ U sl hp a w o base ce:=by
 intro K Q hK;obtain⟨u,w',h1,h2⟩:=h;exact h1.wp (hK u w' h2)
def Zsv (Γ:Gh) (w:World) (hp:Hp) (I' : Nat→Prop) (ids:List Nat):Prop:=∀ id∈ids,∀ o b,lkp hp id=some o→ZhQ (some o)=true→Blk Γ w id o b→I' b
theorem Zsv.sub {I' : Nat→Prop} {ids aa : List Nat} (h:Zsv Γ w hp I' ids) (hs:∀ id∈aa,id∈ids):Zsv Γ w hp I' aa:=fun id ab=>h id (hs id ab)
theorem ZxQ (h:Zbr Γ w I F A hp) (ids:List Nat):Zsv Γ w hp (Zh6 Γ w hp I ids) ids:=by
 intro id aa o b hl hr hb;cases o with
 | box cs=>cases hr
 | gone=>exact hb.isGone.elim
 | tree sz ns xs lk=>exact .inr ⟨id,aa,_,hl,rfl,hb⟩
 | row sz xs ex fz=>
  cases fz with
  | false=>exact .inr ⟨id,aa,_,hl,rfl,hb⟩
  | true=>
   have hb:=hb.row;obtain⟨ad,n,c,h1,h2,h3⟩:=h id _ hl;rw[h1] at hb;obtain⟨ae,rfl,rfl,hc⟩:=ZtK hb;rcases h3 with h3 | ⟨g,q0,cur,e,hg,h4,h5,h6,h7,h8,h9,ab,af⟩
   ·exact absurd h3.2 hc
   ·cases hg;exact .inl (by simpa using ab)
theorem Zwe (h:Zbr Γ w I F A hp) {I' : Nat→Prop} (hI:∀ b,I b→I' b) {id:Nat} (aa:Zsv Γ w hp I' [id]) {xs:List D} (he:UM (lkp hp id)=some xs) :
  ∃ ad n c sz,Γ id=some (.row ad n c sz)∧n=xs.length∧n≤c∧((n=0∧c=0)∨∃ g q,ad=some ⟨g,q,none⟩∧I' g∧0<sz∧U3 w I' g sz xs q):=by
 unfold UM at he;split at he
 ·rename_i sz af ex fz hl;cases he;obtain⟨ad,n,c,h1,h2,h3⟩:=h id _ hl;refine⟨ad,n,c,sz,h1,h2,?_⟩;rcases h3 with h3 | ⟨g,q0,cur,e,rfl,hc,hw,h4,h5,h6,h7,h8,hF,h9⟩
  ·exact⟨by omega,.inl h3⟩
  ·refine⟨h4,.inr ⟨g,q0,rfl,aa id (by simp) _ g hl rfl (.inl (by rw[h1];simp[ZC,KE hc])),h7,?_⟩⟩;cases ex
   ·exact h9.mono' (Zbz hI) rfl
   ·exact h9.mono' ⟨fun b hb=>hI b hb.1,fun _ _=>rfl⟩ rfl
 ·rename_i sz ns af hl;cases he;obtain⟨ad,n,c,h1,⟨h2,h3⟩,_⟩:=h id _ hl;refine⟨ad,n,c,sz,h1,h2,?_⟩;rcases h3 with h3 | ⟨g,cur,e,B,rfl,hc,hw,h4,h5,h6,ab,h8,h9,ag⟩
  ·exact⟨by omega,.inl ⟨h3.1,h3.2.1⟩⟩
  ·have ae:ZC (Γ id)=some g:=by rw[h1];simp[ZC,KE hc]
   exact⟨h4,.inr ⟨g,0,rfl,aa id (by simp) _ g hl rfl (.inl ae),ab,h8.rep fun b hb=>aa id (by simp) _ b hl rfl (.inr (.inl ⟨g,B,ae,h8,hb⟩))⟩⟩
 ·cases he
theorem ZuB (h:Zbr Γ w I F A hp) {I' : Nat→Prop} (hI:∀ b,I b→I' b) {x:AV} {v:Value} (hx:Rep Γ w I x v) (aa:Zsv Γ w hp I' (Zd9 x)) {d:D} (hd:ZiQ hp x=some d):Yi w I' d v:=by
 unfold ZiQ at hd;split at hd
 ·cases hd;exact(X5.1 hx).mono (Zbz hI)
 ·cases hd;obtain⟨ad,rfl⟩:=hx;exact⟨ad,0,rfl,by simp,.inl rfl⟩
 ·rename_i id;obtain⟨xs,h1,hd⟩:=Za hd;cases hd;obtain⟨ad,n,c,sz,h2,h3,h4,h5⟩:=Zwe h hI aa h1;obtain⟨aj,n',c',af,h6,rfl⟩:=hx;rw[h2] at h6;cases h6;refine⟨ad,c,by rw[h3],by omega,?_⟩;rcases h5 with h5 | ⟨g,q,rfl,h7,h8,h9⟩
  ·exact .inl (Ks (by omega))
  ·exact .inr ⟨g,q,sz,rfl,h7,h8,h9⟩
 ·rename_i id off n;obtain⟨xs,h1,hd⟩:=Za hd;cases hd;obtain⟨ad,m,c,sz,h2,h3,h4,h5⟩:=Zwe h hI aa h1;obtain⟨a0,m',c',af,av,h6,h7,h8,rfl,h9,ab⟩:=hx;rw[h2] at h6;cases h6;have ae:n=((xs.drop off).take n).length:=by simp;omega
  refine⟨av,c-off,by rw[← ae],by omega,?_⟩;by_cases hn:n=0
  ·exact .inl (Ks (by omega))
  ·rcases h5 with h5 | ⟨g,q,rfl,ag,ah,ai⟩
   ·omega
   ·rcases ab with ab | ab
    ·subst ab;exact .inr ⟨g,q+off*sz,sz,by simp[Uh],ag,ah,Zh9 ai off n⟩
    ·omega
 ·cases hd
theorem Zy4 (h:Zbr Γ w I F A hp) {I' : Nat→Prop} (hI:∀ b,I b→I' b):∀ {xs:List AV} {vs:List Value} {ds:List D},ZD (Vj Γ w I) xs vs→Zsv Γ w hp I' (xs.flatMap Zd9)→QH (ZiQ hp) xs=some ds→Za7 D.one ds=true→Xa w I' ds vs
 | [],[],ds,_,_,hd,_=>by simp only[QH] at hd;cases hd;simp[Xa]
 | [],_ :: _,_,h,_,_,_=>h.elim
 | _ :: _,[],_,h,_,_,_=>h.elim
 | x :: xs,v :: vs,ds,hr,hl,hd,h1=>by
  simp only[QH] at hd;obtain⟨d,h2,hd⟩:=Za hd;obtain⟨ab,h3,hd⟩:=Za hd;cases hd;simp only[Za7,Kd] at h1;refine⟨v,vs,rfl,h1.1,(Yi.one h1.1).1 (ZuB h hI hr.1.rep2.rep (hl.sub fun id aa=>by simp only[KO,Kf];exact .inl aa) h2),Zy4 h hI hr.2 (hl.sub fun id aa=>by simp only[KO,Kf];exact .inr aa) h3 h1.2⟩
theorem ZxR (h:Zbr Γ w I F A hp) {I' : Nat→Prop} (hI:∀ b,I b→I' b) {x:AV} {v:Value} (hx:Rep Γ w I x v) (aa:Zsv Γ w hp I' (Zgc x)) {d:D} (hd:toD hp x=some d):Yi w I' d v:=by
 unfold toD at hd;split at hd
 ·rename_i cs;obtain⟨ds,h1,hd⟩:=Za hd;split at hd
  ·rename_i h2;cases hd;obtain⟨vs,rfl,h3⟩:=hx;exact⟨vs,rfl,Zy4 h hI h3 aa h1 h2⟩
  ·cases hd
 ·rename_i ab;refine ZuB h hI hx ?_ hd;cases x<;>first | exact aa | (exact absurd rfl (ab _))
def Zy5 (x y:AV):List Nat:=match y with
 | .d _=>Zgc x
 | _=>[]
theorem ZCM (h:Zbr Γ w I F A hp) {I' : Nat→Prop} (hI:∀ b,I b→I' b) {m:Bool} {x y:AV} {v:Value} (hx:Rep Γ w I x v) (ha:ZdX hp m x=some y) (aa:Zsv Γ w hp I' (Zy5 x y)):Rep Γ w I' y v:=by
 have keep:Rep Γ w I' x v:=hx.mono (Qo.refl Γ) (Zbz hI);unfold ZdX at ha;split at ha
 ·cases ha;exact keep
 ·cases ha;exact keep
 ·cases ha;exact keep
 ·cases ha;exact keep
 ·cases ha;exact keep
 ·rename_i id;cases m
  ·simp only[Zgo,asD] at ha;obtain⟨d,h1,ha⟩:=Za ha;cases ha;exact X5.2 (ZuB h hI hx aa h1)
  ·simp only[Zgo] at ha;cases ha;exact keep
 ·cases m
  ·simp only[ZhP] at ha;cases ha;exact X5.2 (ZxR h hI hx aa rfl)
  ·simp only[ZhP] at ha;cases ha;exact keep
 ·cases ha;exact keep
 ·cases m
  ·simp only[Zgp,asD] at ha;obtain⟨d,h1,ha⟩:=Za ha;cases ha;exact X5.2 (ZxR h hI hx aa h1)
  ·simp only[Zgp] at ha;split at ha
   ·cases ha
   ·cases ha;exact keep
 ·obtain⟨d,h1,ha⟩:=Za ha;cases ha;exact X5.2 (ZxR h hI hx aa h1)
theorem ZmJ (x y:AV) (xs ys:List AV):Ve (x :: xs) (y :: ys)=Zy5 x y++Ve xs ys:=by
 cases y<;>simp[Ve,Zy5]
theorem Zy6 (h:Zbr Γ w I F A hp) {I' : Nat→Prop} (hI:∀ b,I b→I' b) (m:Nat→Bool):∀ {xs ys:List AV} {vs:List Value} (i:Nat),ZD (Rep Γ w I) xs vs→args hp m i xs=some ys→Zsv Γ w hp I' (Ve xs ys)→ZD (Rep Γ w I') ys vs
 | [],ys,[],i,_,ha,_=>by simp only[args] at ha;cases ha;exact trivial
 | [],_,_ :: _,_,h,_,_=>h.elim
 | _ :: _,_,[],_,h,_,_=>h.elim
 | x :: xs,ys,v :: vs,i,hr,ha,hl=>by
  simp only[args] at ha;obtain⟨y,h1,ha⟩:=Za ha;obtain⟨ab,h2,ha⟩:=Za ha;cases ha;rw[ZmJ] at hl;exact⟨ZCM h hI hr.1 h1 (hl.sub fun id aa=>by simp[aa]),Zy6 h hI m (i+1) hr.2 h2 (hl.sub fun id aa=>by simp[aa])⟩
def Zhz (ids:List Nat) (Γ:Gh):Gh:=fun k=>match ids[k]? with
 | some id=>Γ id
 | none=>none
theorem V1 {ids:List Nat} {k id:Nat} (h:ids[k]?=some id):Zhz ids Γ k=Γ id:=by simp[Zhz,h]
theorem ZhA {ids l:List Nat} (h:∀ id∈l,id∈ids):ZbJ Γ (Zhz ids Γ) (WK ids) l:=by
 intro id aa r hr;rw[V1 (ZkF (h id aa)).2];exact hr
theorem ZmK {S S' : Nat→Prop} {b sz:Nat} {ys:List D} (hf:Za7 D.flat ys=true) {o:Nat} (h:U3 w S b sz ys o):U3 w S' b sz ys o:=by
 rw[YD] at h ⊢;intro i x hx;obtain⟨vs,h1,h2,h3⟩:=h i x hx;refine⟨vs,h1,h2,?_⟩;have aa : x.flat=true:=by
  clear h h1 h2 h3
  induction ys generalizing i with
  | nil=>simp at hx
  | cons y ys ih=>
   simp only[Za7,Kd] at hf;cases i with
   | zero=>simp at hx;subst hx;exact hf.1
   | succ i=>simp at hx;exact ih hf.2 i hx
 have one:∀ {y:D} {v:Value},y.plain=true→Z2 w S y [v]→Z2 w S' y [v]:=by
  intro y v hy hv;cases y<;>first | (simpa [Z2] using hv) | (simp[D.plain] at hy)
 have all:∀ (ds:List D) (us:List Value),Za7 D.plain ds=true→Xa w S ds us→Xa w S' ds us:=by
  intro ds
  induction ds with
  | nil=>intro us _ h;simpa [Xa] using h
  | cons d ds ih=>
   intro us hp h;simp only[Za7,Kd] at hp;obtain⟨v,r,h1,h2,h3,h4⟩:=h;exact⟨v,r,h1,h2,one hp.1 h3,ih r hp.2 h4⟩
 have:=all x.cells vs aa h3.cells;exact ZsF (Xw.1 this)
theorem ZkS.give {I' F' A' : Nat→Prop} {ad:Option Addr} {n c sz:Nat} {ys:List D} (h:ZkS w I F A ad n c sz ys true false) (hf:Za7 D.flat ys=true)
  (hb:∀ b,ZC (some (.row ad n c sz))=some b→F b→F' b∧(I' b→I b)):ZkS w I' F' A' ad n c sz ys true false:=by
 obtain⟨h2,h3⟩:=h;refine⟨h2,?_⟩;rcases h3 with h3 | ⟨g,q0,cur,e,rfl,hc,hw,h4,h5,h6,h7,h8,aa,h9⟩
 ·exact .inl h3
 ·obtain⟨ab,ae⟩:=hb g (by simp[ZC,KE hc]) aa;exact .inr ⟨g,q0,cur,e,rfl,hc,hw,h4,h5,h6,h7,by simp at h8 ⊢;exact fun hi=>h8 (ae hi),ab,ZmK hf h9⟩
theorem Zwf {ids:List Nat} {id k:Nat} (hk:ids[k]?=some id) {o:Zn} (ho:Vi Γ w I F A id o) {I' F' A' : Nat→Prop} (hI:∀ b,I b→I' b) (hF:∀ b,Blk Γ w id o b→F' b) (hA:∀ b,I b→A b→A' b)
  (hn:∀ b,Blk Γ w id o b→I' b→I b):Vi (Zhz ids Γ) w I' F' A' k (Zb3 ids o):=by
 cases o with
 | gone=>
  obtain⟨r,hr⟩:=ho;exact⟨r,by rw[V1 hk,hr]⟩
 | tree sz ns xs lk=>
  obtain⟨ad,n,c,h1,h2,h3⟩:=ho;refine⟨ad,n,c,by rw[V1 hk,h1],?_,YF.lose (YF.kill (Γ':=Γ) h3 (fun _ _ _ h=>h) fun _ _=>rfl)⟩;rw[J5,J6];refine h2.mono fun b hb=>?_;rw[← h1] at hb;have ab : Blk Γ w id (.tree sz ns xs lk) b:=hb.elim .inl fun h=>.inr (.inl h);exact⟨rfl,hn b ab,fun _=>hF b ab⟩
 | box cs=>
  obtain⟨b,cur,e,h1,h2,h3,h4,h5,af⟩:=ho;have hb:Blk Γ w id (.box cs) b:=.inl (by rw[h1];rfl);refine⟨b,cur,e,by rw[V1 hk,h1],h2,fun hi=>h3 (hn b hb hi),hF b hb,?_,((af.mono fun x te l u v g hc hv hg=>have hB:=Or.inr (Or.inr (ZyK h1 h2 hc hv hg));⟨rfl,hn g hB,fun _=>hF g hB⟩).map (JQ _)).map (ZcR _)⟩;have h6:ZD (X3 Γ w I) (cs.map (ZW ((ZaL (.box cs)).filter fun i=>!ids.contains i))) cur.toList:=h5.map_left fun _ _ h=>Zl0 h;refine Zfi (ZhA fun ae aa=>?_) (Zbz hI) h6;obtain⟨y,hy,aa⟩:=Kx.1 aa;obtain⟨x,hx,rfl⟩:=KX.1 hy;obtain⟨h7,h8⟩:=ZjI _ x ae aa;have h9:ae∈ZaL (.box cs):=Kx.2 ⟨x,hx,h7⟩
  simp only[LN,KS,K0,KT,not_and,Decidable.not_not] at h8;exact h8 h9
 | row sz xs ex fz=>
  obtain⟨ad,n,c,h1,h2,h3⟩:=ho;refine⟨ad,n,c,by rw[V1 hk,h1],h2,?_⟩;rcases h3 with h3 | ⟨g,q0,cur,e,rfl,hc,hw,h4,h5,h6,h7,h8,ag,h9⟩
  ·exact .inl h3
  ·have hb:Blk Γ w id (.row sz xs ex fz) g:=.inl (by rw[h1];simp[ZC,KE hc]);refine .inr ⟨g,q0,cur,e,rfl,hc,hw,h4,h5,h6,h7,?_,hF g hb,?_⟩
   ·cases fz
    ·simp at h8 ⊢;exact fun hi=>h8 (hn g hb hi)
    ·simp at h8 ⊢;exact hI g h8
   ·cases ex
    ·exact h9.mono' (Zbz hI) rfl
    ·simp only[Kk] at h9 ⊢;exact h9.mono' ⟨fun b hb=>⟨hI b hb.1,hA b hb.1 hb.2⟩,fun _ _=>rfl⟩ rfl
end
end Go.Abs
