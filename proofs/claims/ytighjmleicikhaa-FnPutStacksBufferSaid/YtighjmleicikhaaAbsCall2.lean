/- Own text. -/
import Derived.Test.YtighjmleicikhaaAbsStep8
set_option linter.unusedVariables false
set_option linter.unusedSimpArgs false
namespace Go.Abs
open Go
section
variable {Γ Γ' : Gh} {w w' : World} {I I' : Nat→Prop}
def AV.small:AV→Bool
 | .d _=>false
 | .agg _=>false
 | .tup _=>false
 | .clo _ _=>false
 | _=>true
theorem X9 {x:AV} (hs:x.small=true) (v:Value):(Rep Γ w I x v=Xc Γ w I x v)∧(Y1 Γ w I x v=Xc Γ w I x v)∧(QB Γ w I x v=Xc Γ w I x v):=by
 cases x<;>first | exact⟨rfl,rfl,rfl⟩ | cases hs
theorem Q1 {x:AV} (hs:x.small=true) (g:Nat→Nat) (bad:List Nat) :
  ren g x=UD g x∧Uj g x=UD g x∧kill bad x=ZK bad x∧Zv bad x=ZK bad x∧Zj x=Ze x∧Zm x=Ze x:=by
 cases x<;>first | exact⟨rfl,rfl,rfl,rfl,rfl,rfl⟩ | cases hs
def Vu (Γ Γ' : Gh) (g:Nat→Nat) (ids:List Nat):Prop:=∀ id∈ids,∀ r,Γ id=some r→Γ' (g id)=some r
theorem Zbl {g:Nat→Nat} {x:AV} {v:Value} (hg:Vu Γ Γ' g (Ze x)) (hk:Zw I I' w w') (h:Xc Γ w I x v):Xc Γ' w' I' (UD g x) v:=by
 cases x with
 | d x=>exact⟨h.1,h.2.mono hk⟩
 | nil=>exact h
 | nilp=>exact h
 | nili=>exact h
 | ptr id off=>obtain⟨b,h1,h2⟩:=h;exact⟨b,hg id (by simp[Ze]) _ h1,h2⟩
 | prow id sz i off=>obtain⟨b,o,n,c,h1,h2⟩:=h;exact⟨b,o,n,c,hg id (by simp[Ze]) _ h1,h2⟩
 | pim cs=>obtain⟨b,o,vs,h1,h2,h3,h4⟩:=h;exact⟨b,o,vs,h1,hk.sub b h2,h3.mono (hk.blk b h2),h4.mono hk⟩
 | own id=>obtain⟨a,n,c,sz,h1,h2⟩:=h;exact⟨a,n,c,sz,hg id (by simp[Ze]) _ h1,h2⟩
 | ownv id off n=>obtain⟨a0,m,c,sz,a,h1,h2⟩:=h;exact⟨a0,m,c,sz,a,hg id (by simp[Ze]) _ h1,h2⟩
 | bnil id e=>obtain⟨b,h1,h2⟩:=h;exact⟨b,hg id (by simp[Ze]) _ h1,h2⟩
 | bbuf a b=>exact h
 | agg cs=>exact h.elim
 | tup cs=>exact h.elim
 | clo f cs=>exact h.elim
 | junk=>exact trivial
theorem Zbm {g:Nat→Nat}:∀ {xs:List AV} {vs:List Value},Vu Γ Γ' g (xs.flatMap Ze)→Zw I I' w w'→Zl (Xc Γ w I) xs vs→Zl (Xc Γ' w' I') (xs.map (UD g)) vs
 | [],[],_,_,_=>trivial
 | [],_ :: _,_,_,h=>h.elim
 | _ :: _,[],_,_,h=>h.elim
 | x :: xs,v :: vs,hg,hk,h=>⟨Zbl (fun id aa=>hg id (by simp[aa])) hk h.1,Zbm (fun id aa=>hg id (by simp only[Kz,Kd];exact .inr aa)) hk h.2⟩
theorem Zmi {g:Nat→Nat} {x:AV} {v:Value} (hg:Vu Γ Γ' g (Zm x)) (hk:Zw I I' w w') (h:QB Γ w I x v):QB Γ' w' I' (Uj g x) v:=by
 by_cases hs:x.small=true
 ·rw[(Q1 hs g []).2.2.2.2.2] at hg;rw[(X9 hs v).2.2] at h;rw[(Q1 hs g []).2.1];exact(Zbl hg hk h).repB
 ·cases x with
  | clo f cs=>obtain⟨us,h1,h2⟩:=h;exact⟨us,h1,Zbm hg hk h2⟩
  | agg cs=>exact h.elim
  | tup cs=>exact h.elim
  | d x=>exact⟨h.1,h.2.mono hk⟩
  | _=>exact absurd rfl hs
theorem ZdT {g:Nat→Nat} {x:AV} {v:Value} (hg:Vu Γ Γ' g (Zm x)) (hk:Zw I I' w w') (h:Y1 Γ w I x v):Y1 Γ' w' I' (Uj g x) v:=by
 by_cases hs:x.small=true
 ·rw[(Q1 hs g []).2.2.2.2.2] at hg;rw[(X9 hs v).2.1] at h;rw[(Q1 hs g []).2.1];exact(Zbl hg hk h).rep2
 ·cases x with
  | clo f cs=>obtain⟨us,h1,h2⟩:=h;exact⟨us,h1,Zbm hg hk h2⟩
  | agg cs=>obtain⟨us,h1,h2⟩:=h;exact⟨us,h1,Zbm hg hk h2⟩
  | tup cs=>exact h.elim
  | d x=>exact Zhr.2 ((Zhr.1 h).mono hk)
  | _=>exact absurd rfl hs
theorem ZfY {g:Nat→Nat}:∀ {xs:List AV} {vs:List Value},Vu Γ Γ' g (xs.flatMap Zm)→Zw I I' w w'→Zl (Y1 Γ w I) xs vs→Zl (Y1 Γ' w' I') (xs.map (Uj g)) vs
 | [],[],_,_,_=>trivial
 | [],_ :: _,_,_,h=>h.elim
 | _ :: _,[],_,_,h=>h.elim
 | x :: xs,v :: vs,hg,hk,h=>⟨ZdT (fun id aa=>hg id (by simp only[Kz,Kd];exact .inl aa)) hk h.1,ZfY (fun id aa=>hg id (by simp only[Kz,Kd];exact .inr aa)) hk h.2⟩
theorem Uk {g:Nat→Nat}:∀ {xs:List AV} {vs:List Value},Vu Γ Γ' g (xs.flatMap Zm)→Zw I I' w w'→Zl (QB Γ w I) xs vs→Zl (QB Γ' w' I') (xs.map (Uj g)) vs
 | [],[],_,_,_=>trivial
 | [],_ :: _,_,_,h=>h.elim
 | _ :: _,[],_,_,h=>h.elim
 | x :: xs,v :: vs,hg,hk,h=>⟨Zmi (fun id aa=>hg id (by simp only[Kz,Kd];exact .inl aa)) hk h.1,Uk (fun id aa=>hg id (by simp only[Kz,Kd];exact .inr aa)) hk h.2⟩
theorem ZdF {g:Nat→Nat} {x:AV} {v:Value} (hg:Vu Γ Γ' g (Zj x)) (hk:Zw I I' w w') (h:Rep Γ w I x v):Rep Γ' w' I' (ren g x) v:=by
 by_cases hs:x.small=true
 ·rw[(Q1 hs g []).2.2.2.2.1] at hg;rw[(X9 hs v).1] at h;rw[(Q1 hs g []).1];exact(Zbl hg hk h).rep2.rep
 ·cases x with
  | tup vs=>obtain⟨us,h1,h2⟩:=h;exact⟨us,h1,ZfY hg hk h2⟩
  | clo f cs=>exact ZdT (g:=g) (x:=.clo f cs) hg hk h
  | agg cs=>exact ZdT (g:=g) (x:=.agg cs) hg hk h
  | d x=>exact QF.2 ((QF.1 h).mono hk)
  | _=>exact absurd rfl hs
theorem J4 {bad:List Nat} {x:AV} {v:Value} (h:Xc Γ w I x v):Xc Γ w I (ZK bad x) v:=by
 cases x<;>simp only[ZK]<;>first | exact h | (split<;>first | exact trivial | exact h)
theorem Zcb {bad:List Nat} {xs:List AV} {vs:List Value} (h:Zl (Xc Γ w I) xs vs):Zl (Xc Γ w I) (xs.map (ZK bad)) vs:=h.map_left fun _ _ h=>J4 h
theorem Zcc {bad:List Nat} {x:AV} {v:Value} (h:QB Γ w I x v):QB Γ w I (Zv bad x) v:=by
 by_cases hs:x.small=true
 ·rw[(X9 hs v).2.2] at h;rw[(Q1 hs id bad).2.2.2.1];exact(J4 h).repB
 ·cases x with
  | clo f cs=>obtain⟨us,h1,h2⟩:=h;exact⟨us,h1,Zcb h2⟩
  | agg cs=>exact h.elim
  | tup cs=>exact h.elim
  | d x=>exact h
  | _=>exact absurd rfl hs
theorem Zcd {bad:List Nat} {x:AV} {v:Value} (h:Y1 Γ w I x v):Y1 Γ w I (Zv bad x) v:=by
 by_cases hs:x.small=true
 ·rw[(X9 hs v).2.1] at h;rw[(Q1 hs id bad).2.2.2.1];exact(J4 h).rep2
 ·cases x with
  | clo f cs=>obtain⟨us,h1,h2⟩:=h;exact⟨us,h1,Zcb h2⟩
  | agg cs=>obtain⟨us,h1,h2⟩:=h;exact⟨us,h1,Zcb h2⟩
  | tup cs=>exact h.elim
  | d x=>exact h
  | _=>exact absurd rfl hs
theorem ZhY {bad:List Nat} {x:AV} {v:Value} (h:Rep Γ w I x v):Rep Γ w I (kill bad x) v:=by
 by_cases hs:x.small=true
 ·rw[(X9 hs v).1] at h;rw[(Q1 hs id bad).2.2.1];exact(J4 h).rep2.rep
 ·cases x with
  | tup vs=>obtain⟨us,h1,h2⟩:=h;exact⟨us,h1,h2.map_left fun _ _ h=>Zcd h⟩
  | clo f cs=>exact(Zcd (bad:=bad) (x:=.clo f cs) h).rep
  | agg cs=>exact(Zcd (bad:=bad) (x:=.agg cs) h).rep
  | d x=>exact h
  | _=>exact absurd rfl hs
theorem ZaP (bad:List Nat) (x:AV):∀ id∈Ze (ZK bad x),id∈Ze x∧id∉bad:=by
 intro id aa;cases x<;>simp only[ZK] at aa<;>first
  | (simp[Ze] at aa;done)
  | (split at aa
     ·simp [Ze] at aa
     ·rename_i hb;simp[Ze] at aa hb ⊢;first | (subst aa;simpa using hb) | (rcases aa with rfl | rfl<;>simp[hb]))
theorem UE (bad:List Nat) (xs:List AV):∀ id∈(xs.map (ZK bad)).flatMap Ze,id∈xs.flatMap Ze∧id∉bad:=by
 intro id aa;obtain⟨y,hy,aa⟩:=Kk.1 aa;obtain⟨x,hx,rfl⟩:=K9.1 hy;obtain⟨h1,h2⟩:=ZaP bad x id aa;exact⟨Kk.2 ⟨x,hx,h1⟩,h2⟩
theorem ZaQ (bad:List Nat) (x:AV):∀ id∈Zm (Zv bad x),id∈Zm x∧id∉bad:=by
 intro id aa;by_cases hs:x.small=true
 ·rw[(Q1 hs (fun k=>k) bad).2.2.2.1] at aa;have ab : Zm (ZK bad x)=Ze (ZK bad x):=by
   cases x<;>simp only[ZK]<;>first | rfl | (split<;>rfl) | (cases hs)
  rw[ab] at aa;rw[(Q1 hs (fun k=>k) bad).2.2.2.2.2];exact ZaP bad x id aa
 ·cases x with
  | agg cs=>exact UE bad cs id aa
  | clo f cs=>exact UE bad cs id aa
  | tup cs=>simp[Zv,ZK,Zm,Ze] at aa
  | d x=>simp[Zv,ZK,Zm,Ze] at aa
  | _=>exact absurd rfl hs
theorem ZfZ (bad:List Nat) (x:AV):∀ id∈Zj (kill bad x),id∈Zj x∧id∉bad:=by
 intro id aa;by_cases hs:x.small=true
 ·rw[(Q1 hs (fun k=>k) bad).2.2.1] at aa;have ab : Zj (ZK bad x)=Ze (ZK bad x):=by
   cases x<;>simp only[ZK]<;>first | rfl | (split<;>rfl) | (cases hs)
  rw[ab] at aa;rw[(Q1 hs (fun k=>k) bad).2.2.2.2.1];exact ZaP bad x id aa
 ·cases x with
  | tup vs=>
   obtain⟨y,hy,aa⟩:=Kk.1 aa;obtain⟨x,hx,rfl⟩:=K9.1 hy;obtain⟨h1,h2⟩:=ZaQ bad x id aa;exact⟨Kk.2 ⟨x,hx,h1⟩,h2⟩
  | agg cs=>exact UE bad cs id aa
  | clo f cs=>exact UE bad cs id aa
  | d x=>simp[kill,Zv,ZK,Zj,Zm,Ze] at aa
  | _=>exact absurd rfl hs
end
theorem YS (hp:Hp):∀ (n:Nat) (todo aa:List Nat),aa.Nodup→(Qh hp n todo aa).Nodup∧(∀ id∈aa,id∈Qh hp n todo aa)∧(∀ id∈Qh hp n todo aa,id∈aa∨∃ o,lkp hp id=some o)
 | 0,todo,aa,h=>by simp only[Qh];exact⟨h,fun _ h=>h,fun _ h=>.inl h⟩
 | n+1,[],aa,h=>by simp only[Qh];exact⟨h,fun _ h=>h,fun _ h=>.inl h⟩
 | n+1,id :: todo,aa,h=>by
  simp only[Qh];split
  ·exact YS hp n todo aa h
  ·rename_i hc;cases hl:lkp hp id with
   | none=>simp only[YZ];exact YS hp n todo aa h
   | some o=>
    simp only[YZ];have ab:(aa++[id]).Nodup:=by
     rw[Lt];refine⟨h,by simp,?_⟩;intro a ha b hb;simp at hb;subst hb;intro e;subst e;simp at hc;exact hc ha
    obtain⟨h1,h2,h3⟩:=YS hp n (todo++YQ o) (aa++[id]) ab;refine⟨h1,fun x hx=>h2 x (by simp[hx]),fun x hx=>?_⟩;rcases h3 x hx with h4 | h4
    ·simp at h4;rcases h4 with h4 | rfl
     ·exact .inl h4
     ·exact .inr ⟨o,hl⟩
    ·exact .inr h4
theorem Zbn:∀ {ids:List Nat} {id:Nat},id∈ids→XI ids id<ids.length∧ids[XI ids id]?=some id
 | [],_,h=>by simp at h
 | x :: r,id,h=>by
  simp only[XI];split
  ·rename_i e;subst e;simp
  ·rename_i e;rcases Ke.1 h with h | h
   ·exact absurd h.symm e
   ·obtain⟨h1,h2⟩:=Zbn h;exact⟨by simp;omega,by simpa using h2⟩
theorem J5:∀ {ids:List Nat},ids.Nodup→∀ {k id:Nat},ids[k]?=some id→XI ids id=k
 | [],_,k,id,h=>by simp at h
 | x :: r,hn,k,id,h=>by
  rw[K2] at hn;cases k with
  | zero=>simp at h;subst h;simp[XI]
  | succ k=>
   simp at h;have aa:x≠id:=fun e=>hn.1 (e ▸ Kl h);simp only[XI,Kn aa,J5 hn.2 h]
def Zk5 {α:Type} (b:Option α):Option α→Option α
 | some v=>some v
 | none=>b
theorem Zbo {α:Type}:∀ (l:List (Nat×α)) (k:Nat) (v:α) (t:Nat),lkp (l++[(k,v)]) t=Zk5 (if k=t then some v else none) (lkp l t)
 | [],k,v,t=>by simp[lkp,Zk5]
 | (j,x) :: l,k,v,t=>by
  by_cases h:j=t
  ·simp[lkp,h,Zk5]
  ·simp[lkp,h,Zbo l k v t]
theorem Ym:∀ (l:List Zg) (k i:Nat),lkp (XP k l) i=if k≤i then l[i-k]? else none
 | [],k,i=>by simp[XP,lkp]
 | o :: r,k,i=>by
  simp only[XP,Zbo,Ym r];by_cases h1:k=i
  ·subst h1;simp[Zk5,Nat.not_succ_le_self]
  ·by_cases h2:k≤i
   ·rw[Kn h1,Kw (by omega),Kw h2];have:i-k=(i-(k+1))+1:=by omega
    rw[this];simp;cases r[i-(k+1)]? <;> rfl
   ·rw[Kn h1,Kn (by omega),Kn h2];rfl
theorem ZdU (hp:Hp):∀ (ids:List Nat) (k:Nat),(W5 hp ids)[k]?=(ids[k]?).map fun id=>Ziy (lkp hp id)
 | [],k=>by simp[W5]
 | id :: r,0=>by simp[W5]
 | id :: r,k+1=>by simp[W5,ZdU hp r k]
end Go.Abs
set_option linter.unusedVariables false
set_option linter.unusedSimpArgs false
namespace Go.Abs
open Go
structure Pre (F A I:Nat→Prop) (Γ:Gh) (h:List Zg) (as:List AV) (args:List Value) (w:World):Prop where
 args:Zl (Rep Γ w I) as args
 objs:Vk Γ w I F A (XP 0 h)
 inj:∀ i j o o' b,lkp (XP 0 h) i=some o→lkp (XP 0 h) j=some o'→Blk Γ w i o b→Blk Γ w j o' b→i=j
 bound:∀ b,I b→b<w.heap.size
 fresh:∀ b,w.heap.size≤b→F b
 own:∀ b,F b→A b
 names:∀ id,h.length≤id→Γ id=none
 glob:Zcu I w
structure Back (F A I:Nat→Prop) (Γ:Gh) (w:World) (hs:List Zg) (res:AV) (I' : Nat→Prop) (Γ' : Gh) (v:Value) (w' : World):Prop where
 heads:ZN Γ Γ'
 keeps:Zw I I' w w'
 sub:∀ b,I' b→I b∨F b
 fr:Fr F w w'
 res:Rep Γ' w' I' res v
 objs:Vk Γ' w' I' F A (XP 0 hs)
 inj:∀ i j o o' b,lkp (XP 0 hs) i=some o→lkp (XP 0 hs) j=some o'→Blk Γ' w' i o b→Blk Γ' w' j o' b→i=j
 bound:∀ b,I' b→b<w'.heap.size
 names:∀ id,hs.length≤id→Γ' id=none
def Zmj (P:Program) (f:FuncId):Prop:=∃ fn,P.funcs[f]?=some fn∧(fn.name == "runtime.NumGoroutine")=false∧fn.body.isNone=false
def ZdV (P:Program) (f:FuncId) (as:List AV) (h:List Zg) (res:AV) (hs:List Zg):Prop:=
 Zmj P f∧∀ (F A I:Nat→Prop) (Γ:Gh) (args:List Value) (w:World),Pre F A I Γ h as args w→Calls P f args.toArray w fun e w'=>∃ v I' Γ',e=.returned v∧Back F A I Γ w hs res I' Γ' v w'
def Z4 (P:Program) (C:Orc):Prop:=∀ f as h res hs,C f as h=some (res,hs)→ZdV P f as h res hs
section
variable {P:Program} {nt:Nat} {U:Nat→Prop} {F A I:Nat→Prop} {Γ:Gh} {sl:Sl} {hp:Hp} {a:Act} {w:World}
def ZhZ (P:Program) (nt:Nat) (F A I:Nat→Prop) (Γ:Gh) (U:Nat→Prop) (sl:Sl) (hp:Hp) (a:Act) (w:World) (o:Oper) (base:Nat) (ce:Zb):Prop:=
 ∀ (K:Act→World→Prop) (Q:Exit→Act→World→Prop),(∀ u w',Yc nt F A I Γ w (Y2 U base) (ce.on o.dst sl hp).1 (ce.on o.dst sl hp).2 (a.put o.dst u) w'→K (a.put o.dst u) w')→o.wp P a w K Q
theorem Uc.opWp {o:Oper} {base:Nat} {ce:Zb} (h:Uc P nt F A I Γ U sl hp a w o base ce):ZhZ P nt F A I Γ U sl hp a w o base ce:=by
 intro K Q hK;obtain⟨u,w',h1,h2⟩:=h;exact h1.wp (hK u w' h2)
def ZfE (Γ:Gh) (w:World) (hp:Hp) (I' : Nat→Prop) (ids:List Nat):Prop:=∀ id∈ids,∀ o b,lkp hp id=some o→JB (some o)=true→Blk Γ w id o b→I' b
theorem ZfE.sub {I' : Nat→Prop} {ids aa : List Nat} (h:ZfE Γ w hp I' ids) (hs:∀ id∈aa,id∈ids):ZfE Γ w hp I' aa:=fun id ab=>h id (hs id ab)
theorem Zjb (h:Vk Γ w I F A hp) (ids:List Nat):ZfE Γ w hp (JP Γ w hp I ids) ids:=by
 intro id aa o b hl hr hb;cases o with
 | box cs=>cases hr
 | gone=>exact hb.isGone.elim
 | tree sz ns xs lk=>exact .inr ⟨id,aa,_,hl,rfl,hb⟩
 | row sz xs ex fz=>
  cases fz with
  | false=>exact .inr ⟨id,aa,_,hl,rfl,hb⟩
  | true=>
   have hb:=hb.row;obtain⟨ad,n,c,h1,h2,h3⟩:=h id _ hl;rw[h1] at hb;obtain⟨ae,rfl,rfl,hc⟩:=ZgC hb;rcases h3 with h3 | ⟨g,q0,cur,e,hg,h4,h5,h6,h7,h8,h9,ab,af⟩
   ·exact absurd h3.2 hc
   ·cases hg;exact .inl (by simpa using ab)
theorem Zh0 (h:Vk Γ w I F A hp) {I' : Nat→Prop} (hI:∀ b,I b→I' b) {id:Nat} (aa:ZfE Γ w hp I' [id]) {xs:List D} (he:X7 (lkp hp id)=some xs) :
  ∃ ad n c sz,Γ id=some (.row ad n c sz)∧n=xs.length∧n≤c∧((n=0∧c=0)∨∃ g q,ad=some ⟨g,q,none⟩∧I' g∧0<sz∧Yk w I' g sz xs q):=by
 unfold X7 at he;split at he
 ·rename_i sz af ex fz hl;cases he;obtain⟨ad,n,c,h1,h2,h3⟩:=h id _ hl;refine⟨ad,n,c,sz,h1,h2,?_⟩;rcases h3 with h3 | ⟨g,q0,cur,e,rfl,hc,hw,h4,h5,h6,h7,h8,hF,h9⟩
  ·exact⟨by omega,.inl h3⟩
  ·refine⟨h4,.inr ⟨g,q0,rfl,aa id (by simp) _ g hl rfl (.inl (by rw[h1];simp[Zk,Kp hc])),h7,?_⟩⟩;cases ex
   ·exact h9.mono' (Vs hI) rfl
   ·exact h9.mono' ⟨fun b hb=>hI b hb.1,fun _ _=>rfl⟩ rfl
 ·rename_i sz ns af hl;cases he;obtain⟨ad,n,c,h1,⟨h2,h3⟩,_⟩:=h id _ hl;refine⟨ad,n,c,sz,h1,h2,?_⟩;rcases h3 with h3 | ⟨g,cur,e,B,rfl,hc,hw,h4,h5,h6,ab,h8,h9,ag⟩
  ·exact⟨by omega,.inl ⟨h3.1,h3.2.1⟩⟩
  ·have ae:Zk (Γ id)=some g:=by rw[h1];simp[Zk,Kp hc]
   exact⟨h4,.inr ⟨g,0,rfl,aa id (by simp) _ g hl rfl (.inl ae),ab,h8.rep fun b hb=>aa id (by simp) _ b hl rfl (.inr (.inl ⟨g,B,ae,h8,hb⟩))⟩⟩
 ·cases he
theorem ZgU (h:Vk Γ w I F A hp) {I' : Nat→Prop} (hI:∀ b,I b→I' b) {x:AV} {v:Value} (hx:Rep Γ w I x v) (aa:ZfE Γ w hp I' (WM x)) {d:D} (hd:Zaw hp x=some d):QL w I' d v:=by
 unfold Zaw at hd;split at hd
 ·cases hd;exact(QF.1 hx).mono (Vs hI)
 ·cases hd;obtain⟨ad,rfl⟩:=hx;exact⟨ad,0,rfl,by simp,.inl rfl⟩
 ·rename_i id;obtain⟨xs,h1,hd⟩:=Za hd;cases hd;obtain⟨ad,n,c,sz,h2,h3,h4,h5⟩:=Zh0 h hI aa h1;obtain⟨aj,n',c',af,h6,rfl⟩:=hx;rw[h2] at h6;cases h6;refine⟨ad,c,by rw[h3],by omega,?_⟩;rcases h5 with h5 | ⟨g,q,rfl,h7,h8,h9⟩
  ·exact .inl (Kf (by omega))
  ·exact .inr ⟨g,q,sz,rfl,h7,h8,h9⟩
 ·rename_i id off n;obtain⟨xs,h1,hd⟩:=Za hd;cases hd;obtain⟨ad,m,c,sz,h2,h3,h4,h5⟩:=Zh0 h hI aa h1;obtain⟨a0,m',c',af,av,h6,h7,h8,rfl,h9,ab⟩:=hx;rw[h2] at h6;cases h6;have ae:n=((xs.drop off).take n).length:=by simp;omega
  refine⟨av,c-off,by rw[← ae],by omega,?_⟩;by_cases hn:n=0
  ·exact .inl (Kf (by omega))
  ·rcases h5 with h5 | ⟨g,q,rfl,ag,ah,ai⟩
   ·omega
   ·rcases ab with ab | ab
    ·subst ab;exact .inr ⟨g,q+off*sz,sz,by simp[XW],ag,ah,JT ai off n⟩
    ·omega
 ·cases hd
theorem Zkk (h:Vk Γ w I F A hp) {I' : Nat→Prop} (hI:∀ b,I b→I' b):∀ {xs:List AV} {vs:List Value} {ds:List D},Zl (Xc Γ w I) xs vs→ZfE Γ w hp I' (xs.flatMap WM)→ZY (Zaw hp) xs=some ds→V4 D.one ds=true→Qg w I' ds vs
 | [],[],ds,_,_,hd,_=>by simp only[ZY] at hd;cases hd;simp[Qg]
 | [],_ :: _,_,h,_,_,_=>h.elim
 | _ :: _,[],_,h,_,_,_=>h.elim
 | x :: xs,v :: vs,ds,hr,hl,hd,h1=>by
  simp only[ZY] at hd;obtain⟨d,h2,hd⟩:=Za hd;obtain⟨ab,h3,hd⟩:=Za hd;cases hd;simp only[V4,Kc] at h1;refine⟨v,vs,rfl,h1.1,(QL.one h1.1).1 (ZgU h hI hr.1.rep2.rep (hl.sub fun id aa=>by simp only[Kz,Kd];exact .inl aa) h2),Zkk h hI hr.2 (hl.sub fun id aa=>by simp only[Kz,Kd];exact .inr aa) h3 h1.2⟩
theorem Zjc (h:Vk Γ w I F A hp) {I' : Nat→Prop} (hI:∀ b,I b→I' b) {x:AV} {v:Value} (hx:Rep Γ w I x v) (aa:ZfE Γ w hp I' (UC x)) {d:D} (hd:toD hp x=some d):QL w I' d v:=by
 unfold toD at hd;split at hd
 ·rename_i cs;obtain⟨ds,h1,hd⟩:=Za hd;split at hd
  ·rename_i h2;cases hd;obtain⟨vs,rfl,h3⟩:=hx;exact⟨vs,rfl,Zkk h hI h3 aa h1 h2⟩
  ·cases hd
 ·rename_i ab;refine ZgU h hI hx ?_ hd;cases x<;>first | exact aa | (exact absurd rfl (ab _))
def Zkl (x y:AV):List Nat:=match y with
 | .d _=>UC x
 | _=>[]
theorem Znr (h:Vk Γ w I F A hp) {I' : Nat→Prop} (hI:∀ b,I b→I' b) {m:Bool} {x y:AV} {v:Value} (hx:Rep Γ w I x v) (ha:WL hp m x=some y) (aa:ZfE Γ w hp I' (Zkl x y)):Rep Γ w I' y v:=by
 have keep:Rep Γ w I' x v:=hx.mono (ZN.refl Γ) (Vs hI);unfold WL at ha;split at ha
 ·cases ha;exact keep
 ·cases ha;exact keep
 ·cases ha;exact keep
 ·cases ha;exact keep
 ·cases ha;exact keep
 ·rename_i id;cases m
  ·simp only[UM,asD] at ha;obtain⟨d,h1,ha⟩:=Za ha;cases ha;exact QF.2 (ZgU h hI hx aa h1)
  ·simp only[UM] at ha;cases ha;exact keep
 ·cases m
  ·simp only[JA] at ha;cases ha;exact QF.2 (Zjc h hI hx aa rfl)
  ·simp only[JA] at ha;cases ha;exact keep
 ·cases ha;exact keep
 ·cases m
  ·simp only[UN,asD] at ha;obtain⟨d,h1,ha⟩:=Za ha;cases ha;exact QF.2 (Zjc h hI hx aa h1)
  ·simp only[UN] at ha;split at ha
   ·cases ha
   ·cases ha;exact keep
 ·obtain⟨d,h1,ha⟩:=Za ha;cases ha;exact QF.2 (Zjc h hI hx aa h1)
theorem ZcT (x y:AV) (xs ys:List AV):Q7 (x :: xs) (y :: ys)=Zkl x y++Q7 xs ys:=by
 cases y<;>simp[Q7,Zkl]
theorem Zkm (h:Vk Γ w I F A hp) {I' : Nat→Prop} (hI:∀ b,I b→I' b) (m:Nat→Bool):∀ {xs ys:List AV} {vs:List Value} (i:Nat),Zl (Rep Γ w I) xs vs→args hp m i xs=some ys→ZfE Γ w hp I' (Q7 xs ys)→Zl (Rep Γ w I') ys vs
 | [],ys,[],i,_,ha,_=>by simp only[args] at ha;cases ha;exact trivial
 | [],_,_ :: _,_,h,_,_=>h.elim
 | _ :: _,_,[],_,h,_,_=>h.elim
 | x :: xs,ys,v :: vs,i,hr,ha,hl=>by
  simp only[args] at ha;obtain⟨y,h1,ha⟩:=Za ha;obtain⟨ab,h2,ha⟩:=Za ha;cases ha;rw[ZcT] at hl;exact⟨Znr h hI hr.1 h1 (hl.sub fun id aa=>by simp[aa]),Zkm h hI m (i+1) hr.2 h2 (hl.sub fun id aa=>by simp[aa])⟩
def Jl (ids:List Nat) (Γ:Gh):Gh:=fun k=>match ids[k]? with
 | some id=>Γ id
 | none=>none
theorem Xm {ids:List Nat} {k id:Nat} (h:ids[k]?=some id):Jl ids Γ k=Γ id:=by simp[Jl,h]
theorem Jm {ids l:List Nat} (h:∀ id∈l,id∈ids):Vu Γ (Jl ids Γ) (XI ids) l:=by
 intro id aa r hr;rw[Xm (Zbn (h id aa)).2];exact hr
theorem ZcU {S S' : Nat→Prop} {b sz:Nat} {ys:List D} (hf:V4 D.flat ys=true) {o:Nat} (h:Yk w S b sz ys o):Yk w S' b sz ys o:=by
 rw[Qy] at h ⊢;intro i x hx;obtain⟨vs,h1,h2,h3⟩:=h i x hx;refine⟨vs,h1,h2,?_⟩;have aa : x.flat=true:=by
  clear h h1 h2 h3
  induction ys generalizing i with
  | nil=>simp at hx
  | cons y ys ih=>
   simp only[V4,Kc] at hf;cases i with
   | zero=>simp at hx;subst hx;exact hf.1
   | succ i=>simp at hx;exact ih hf.2 i hx
 have one:∀ {y:D} {v:Value},y.plain=true→Zx w S y [v]→Zx w S' y [v]:=by
  intro y v hy hv;cases y<;>first | (simpa [Zx] using hv) | (simp[D.plain] at hy)
 have all:∀ (ds:List D) (us:List Value),V4 D.plain ds=true→Qg w S ds us→Qg w S' ds us:=by
  intro ds
  induction ds with
  | nil=>intro us _ h;simpa [Qg] using h
  | cons d ds ih=>
   intro us hp h;simp only[V4,Kc] at hp;obtain⟨v,r,h1,h2,h3,h4⟩:=h;exact⟨v,r,h1,h2,one hp.1 h3,ih r hp.2 h4⟩
 have:=all x.cells vs aa h3.cells;exact ZfO (Qp.1 this)
theorem ZbN.give {I' F' A' : Nat→Prop} {ad:Option Addr} {n c sz:Nat} {ys:List D} (h:ZbN w I F A ad n c sz ys true false) (hf:V4 D.flat ys=true)
  (hb:∀ b,Zk (some (.row ad n c sz))=some b→F b→F' b∧(I' b→I b)):ZbN w I' F' A' ad n c sz ys true false:=by
 obtain⟨h2,h3⟩:=h;refine⟨h2,?_⟩;rcases h3 with h3 | ⟨g,q0,cur,e,rfl,hc,hw,h4,h5,h6,h7,h8,aa,h9⟩
 ·exact .inl h3
 ·obtain⟨ab,ae⟩:=hb g (by simp[Zk,Kp hc]) aa;exact .inr ⟨g,q0,cur,e,rfl,hc,hw,h4,h5,h6,h7,by simp at h8 ⊢;exact fun hi=>h8 (ae hi),ab,ZcU hf h9⟩
theorem Zh1 {ids:List Nat} {id k:Nat} (hk:ids[k]?=some id) {o:Zg} (ho:Xa Γ w I F A id o) {I' F' A' : Nat→Prop} (hI:∀ b,I b→I' b) (hF:∀ b,Blk Γ w id o b→F' b) (hA:∀ b,I b→A b→A' b)
  (hn:∀ b,Blk Γ w id o b→I' b→I b):Xa (Jl ids Γ) w I' F' A' k (VF ids o):=by
 cases o with
 | gone=>
  obtain⟨r,hr⟩:=ho;exact⟨r,by rw[Xm hk,hr]⟩
 | tree sz ns xs lk=>
  obtain⟨ad,n,c,h1,h2,h3⟩:=ho;refine⟨ad,n,c,by rw[Xm hk,h1],?_,QV.lose (QV.kill (Γ':=Γ) h3 (fun _ _ _ h=>h) fun _ _=>rfl)⟩;rw[YL,YM];refine h2.mono fun b hb=>?_;rw[← h1] at hb;have ab : Blk Γ w id (.tree sz ns xs lk) b:=hb.elim .inl fun h=>.inr (.inl h);exact⟨rfl,hn b ab,fun _=>hF b ab⟩
 | box cs=>
  obtain⟨b,cur,e,h1,h2,h3,h4,h5,af⟩:=ho;have hb:Blk Γ w id (.box cs) b:=.inl (by rw[h1];rfl);refine⟨b,cur,e,by rw[Xm hk,h1],h2,fun hi=>h3 (hn b hb hi),hF b hb,?_,((af.mono fun x te l u v g hc hv hg=>have hB:=Or.inr (Or.inr (Zj5 h1 h2 hc hv hg));⟨rfl,hn g hB,fun _=>hF g hB⟩).map (YC _)).map (Wg _)⟩;have h6:Zl (QB Γ w I) (cs.map (Zv ((YQ (.box cs)).filter fun i=>!ids.contains i))) cur.toList:=h5.map_left fun _ _ h=>Zcc h;refine Uk (Jm fun ae aa=>?_) (Vs hI) h6;obtain⟨y,hy,aa⟩:=Kk.1 aa;obtain⟨x,hx,rfl⟩:=K9.1 hy;obtain⟨h7,h8⟩:=ZaQ _ x ae aa;have h9:ae∈YQ (.box cs):=Kk.2 ⟨x,hx,h7⟩
  simp only[List.mem_filter,KJ,KG,KP,not_and,Decidable.not_not] at h8;exact h8 h9
 | row sz xs ex fz=>
  obtain⟨ad,n,c,h1,h2,h3⟩:=ho;refine⟨ad,n,c,by rw[Xm hk,h1],h2,?_⟩;rcases h3 with h3 | ⟨g,q0,cur,e,rfl,hc,hw,h4,h5,h6,h7,h8,ag,h9⟩
  ·exact .inl h3
  ·have hb:Blk Γ w id (.row sz xs ex fz) g:=.inl (by rw[h1];simp[Zk,Kp hc]);refine .inr ⟨g,q0,cur,e,rfl,hc,hw,h4,h5,h6,h7,?_,hF g hb,?_⟩
   ·cases fz
    ·simp at h8 ⊢;exact fun hi=>h8 (hn g hb hi)
    ·simp at h8 ⊢;exact hI g h8
   ·cases ex
    ·exact h9.mono' (Vs hI) rfl
    ·simp only[Ki] at h9 ⊢;exact h9.mono' ⟨fun b hb=>⟨hI b hb.1,hA b hb.1 hb.2⟩,fun _ _=>rfl⟩ rfl
end
end Go.Abs
