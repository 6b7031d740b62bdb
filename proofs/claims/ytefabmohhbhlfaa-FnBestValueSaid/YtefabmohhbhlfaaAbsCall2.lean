/- Own text. -/
import Derived.Test.YtefabmohhbhlfaaAbsStep8
set_option linter.unusedVariables false
set_option linter.unusedSimpArgs false
namespace Go.Abs
open Go
section
variable {Γ Γ' : Gh} {w w' : World} {I I' : Nat→Prop}
def AV.small:AV→Bool
 | .d _=>false
 | .agg _=>false
 | .tup _=>false
 | .clo _ _=>false
 | _=>true
theorem YH {x:AV} (hs:x.small=true) (v:Value):(Rep Γ w I x v=Xj Γ w I x v)∧(VH Γ w I x v=Xj Γ w I x v)∧(QP Γ w I x v=Xj Γ w I x v):=by
 cases x<;>first | exact⟨rfl,rfl,rfl⟩ | cases hs
theorem Xd {x:AV} (hs:x.small=true) (g:Nat→Nat) (bad:List Nat) :
  ren g x=JE g x∧UU g x=JE g x∧kill bad x=ZP bad x∧ZD bad x=ZP bad x∧Zm x=Zf x∧Zn x=Zf x:=by
 cases x<;>first | exact⟨rfl,rfl,rfl,rfl,rfl,rfl⟩ | cases hs
def Wn (Γ Γ' : Gh) (g:Nat→Nat) (ids:List Nat):Prop:=∀ id∈ids,∀ r,Γ id=some r→Γ' (g id)=some r
theorem Zcw {g:Nat→Nat} {x:AV} {v:Value} (hg:Wn Γ Γ' g (Zf x)) (hk:ZB I I' w w') (h:Xj Γ w I x v):Xj Γ' w' I' (JE g x) v:=by
 cases x with
 | d x=>exact⟨h.1,h.2.mono hk⟩
 | nil=>exact h
 | nilp=>exact h
 | nili=>exact h
 | ptr id off=>obtain⟨b,h1,h2⟩:=h;exact⟨b,hg id (by simp[Zf]) _ h1,h2⟩
 | prow id sz i off=>obtain⟨b,o,n,c,h1,h2⟩:=h;exact⟨b,o,n,c,hg id (by simp[Zf]) _ h1,h2⟩
 | pim cs=>obtain⟨b,o,vs,h1,h2,h3,h4⟩:=h;exact⟨b,o,vs,h1,hk.sub b h2,h3.mono (hk.blk b h2),h4.mono hk⟩
 | own id=>obtain⟨a,n,c,sz,h1,h2⟩:=h;exact⟨a,n,c,sz,hg id (by simp[Zf]) _ h1,h2⟩
 | ownv id off n=>obtain⟨a0,m,c,sz,a,h1,h2⟩:=h;exact⟨a0,m,c,sz,a,hg id (by simp[Zf]) _ h1,h2⟩
 | bnil id e=>obtain⟨b,h1,h2⟩:=h;exact⟨b,hg id (by simp[Zf]) _ h1,h2⟩
 | bbuf a b=>exact h
 | agg cs=>exact h.elim
 | tup cs=>exact h.elim
 | clo f cs=>exact h.elim
 | junk=>exact trivial
theorem Zcx {g:Nat→Nat}:∀ {xs:List AV} {vs:List Value},Wn Γ Γ' g (xs.flatMap Zf)→ZB I I' w w'→Zp (Xj Γ w I) xs vs→Zp (Xj Γ' w' I') (xs.map (JE g)) vs
 | [],[],_,_,_=>trivial
 | [],_ :: _,_,_,h=>h.elim
 | _ :: _,[],_,_,h=>h.elim
 | x :: xs,v :: vs,hg,hk,h=>⟨Zcw (fun id aa=>hg id (by simp[aa])) hk h.1,Zcx (fun id aa=>hg id (by simp only[Kz,Kc];exact .inr aa)) hk h.2⟩
theorem ZoB {g:Nat→Nat} {x:AV} {v:Value} (hg:Wn Γ Γ' g (Zn x)) (hk:ZB I I' w w') (h:QP Γ w I x v):QP Γ' w' I' (UU g x) v:=by
 by_cases hs:x.small=true
 ·rw[(Xd hs g []).2.2.2.2.2] at hg;rw[(YH hs v).2.2] at h;rw[(Xd hs g []).2.1];exact(Zcw hg hk h).repB
 ·cases x with
  | clo f cs=>obtain⟨us,h1,h2⟩:=h;exact⟨us,h1,Zcx hg hk h2⟩
  | agg cs=>exact h.elim
  | tup cs=>exact h.elim
  | d x=>exact⟨h.1,h.2.mono hk⟩
  | _=>exact absurd rfl hs
theorem Zfw {g:Nat→Nat} {x:AV} {v:Value} (hg:Wn Γ Γ' g (Zn x)) (hk:ZB I I' w w') (h:VH Γ w I x v):VH Γ' w' I' (UU g x) v:=by
 by_cases hs:x.small=true
 ·rw[(Xd hs g []).2.2.2.2.2] at hg;rw[(YH hs v).2.1] at h;rw[(Xd hs g []).2.1];exact(Zcw hg hk h).rep2
 ·cases x with
  | clo f cs=>obtain⟨us,h1,h2⟩:=h;exact⟨us,h1,Zcx hg hk h2⟩
  | agg cs=>obtain⟨us,h1,h2⟩:=h;exact⟨us,h1,Zcx hg hk h2⟩
  | tup cs=>exact h.elim
  | d x=>exact ZjU.2 ((ZjU.1 h).mono hk)
  | _=>exact absurd rfl hs
theorem Zii {g:Nat→Nat}:∀ {xs:List AV} {vs:List Value},Wn Γ Γ' g (xs.flatMap Zn)→ZB I I' w w'→Zp (VH Γ w I) xs vs→Zp (VH Γ' w' I') (xs.map (UU g)) vs
 | [],[],_,_,_=>trivial
 | [],_ :: _,_,_,h=>h.elim
 | _ :: _,[],_,_,h=>h.elim
 | x :: xs,v :: vs,hg,hk,h=>⟨Zfw (fun id aa=>hg id (by simp only[Kz,Kc];exact .inl aa)) hk h.1,Zii (fun id aa=>hg id (by simp only[Kz,Kc];exact .inr aa)) hk h.2⟩
theorem Jh {g:Nat→Nat}:∀ {xs:List AV} {vs:List Value},Wn Γ Γ' g (xs.flatMap Zn)→ZB I I' w w'→Zp (QP Γ w I) xs vs→Zp (QP Γ' w' I') (xs.map (UU g)) vs
 | [],[],_,_,_=>trivial
 | [],_ :: _,_,_,h=>h.elim
 | _ :: _,[],_,_,h=>h.elim
 | x :: xs,v :: vs,hg,hk,h=>⟨ZoB (fun id aa=>hg id (by simp only[Kz,Kc];exact .inl aa)) hk h.1,Jh (fun id aa=>hg id (by simp only[Kz,Kc];exact .inr aa)) hk h.2⟩
theorem Zfe {g:Nat→Nat} {x:AV} {v:Value} (hg:Wn Γ Γ' g (Zm x)) (hk:ZB I I' w w') (h:Rep Γ w I x v):Rep Γ' w' I' (ren g x) v:=by
 by_cases hs:x.small=true
 ·rw[(Xd hs g []).2.2.2.2.1] at hg;rw[(YH hs v).1] at h;rw[(Xd hs g []).1];exact(Zcw hg hk h).rep2.rep
 ·cases x with
  | tup vs=>obtain⟨us,h1,h2⟩:=h;exact⟨us,h1,Zii hg hk h2⟩
  | clo f cs=>exact Zfw (g:=g) (x:=.clo f cs) hg hk h
  | agg cs=>exact Zfw (g:=g) (x:=.agg cs) hg hk h
  | d x=>exact QB.2 ((QB.1 h).mono hk)
  | _=>exact absurd rfl hs
theorem Zba {bad:List Nat} {x:AV} {v:Value} (h:Xj Γ w I x v):Xj Γ w I (ZP bad x) v:=by
 cases x<;>simp only[ZP]<;>first | exact h | (split<;>first | exact trivial | exact h)
theorem ZdA {bad:List Nat} {xs:List AV} {vs:List Value} (h:Zp (Xj Γ w I) xs vs):Zp (Xj Γ w I) (xs.map (ZP bad)) vs:=h.map_left fun _ _ h=>Zba h
theorem ZdB {bad:List Nat} {x:AV} {v:Value} (h:QP Γ w I x v):QP Γ w I (ZD bad x) v:=by
 by_cases hs:x.small=true
 ·rw[(YH hs v).2.2] at h;rw[(Xd hs id bad).2.2.2.1];exact(Zba h).repB
 ·cases x with
  | clo f cs=>obtain⟨us,h1,h2⟩:=h;exact⟨us,h1,ZdA h2⟩
  | agg cs=>exact h.elim
  | tup cs=>exact h.elim
  | d x=>exact h
  | _=>exact absurd rfl hs
theorem ZdC {bad:List Nat} {x:AV} {v:Value} (h:VH Γ w I x v):VH Γ w I (ZD bad x) v:=by
 by_cases hs:x.small=true
 ·rw[(YH hs v).2.1] at h;rw[(Xd hs id bad).2.2.2.1];exact(Zba h).rep2
 ·cases x with
  | clo f cs=>obtain⟨us,h1,h2⟩:=h;exact⟨us,h1,ZdA h2⟩
  | agg cs=>obtain⟨us,h1,h2⟩:=h;exact⟨us,h1,ZdA h2⟩
  | tup cs=>exact h.elim
  | d x=>exact h
  | _=>exact absurd rfl hs
theorem Zkj {bad:List Nat} {x:AV} {v:Value} (h:Rep Γ w I x v):Rep Γ w I (kill bad x) v:=by
 by_cases hs:x.small=true
 ·rw[(YH hs v).1] at h;rw[(Xd hs id bad).2.2.1];exact(Zba h).rep2.rep
 ·cases x with
  | tup vs=>obtain⟨us,h1,h2⟩:=h;exact⟨us,h1,h2.map_left fun _ _ h=>ZdC h⟩
  | clo f cs=>exact(ZdC (bad:=bad) (x:=.clo f cs) h).rep
  | agg cs=>exact(ZdC (bad:=bad) (x:=.agg cs) h).rep
  | d x=>exact h
  | _=>exact absurd rfl hs
theorem ZbZ (bad:List Nat) (x:AV):∀ id∈Zf (ZP bad x),id∈Zf x∧id∉bad:=by
 intro id aa;cases x<;>simp only[ZP] at aa<;>first
  | (simp[Zf] at aa;done)
  | (split at aa
     ·simp [Zf] at aa
     ·rename_i hb;simp[Zf] at aa hb ⊢;first | (subst aa;simpa using hb) | (rcases aa with rfl | rfl<;>simp[hb]))
theorem JF (bad:List Nat) (xs:List AV):∀ id∈(xs.map (ZP bad)).flatMap Zf,id∈xs.flatMap Zf∧id∉bad:=by
 intro id aa;obtain⟨y,hy,aa⟩:=Kr.1 aa;obtain⟨x,hx,rfl⟩:=Lc.1 hy;obtain⟨h1,h2⟩:=ZbZ bad x id aa;exact⟨Kr.2 ⟨x,hx,h1⟩,h2⟩
theorem Zb0 (bad:List Nat) (x:AV):∀ id∈Zn (ZD bad x),id∈Zn x∧id∉bad:=by
 intro id aa;by_cases hs:x.small=true
 ·rw[(Xd hs (fun k=>k) bad).2.2.2.1] at aa;have ab : Zn (ZP bad x)=Zf (ZP bad x):=by
   cases x<;>simp only[ZP]<;>first | rfl | (split<;>rfl) | (cases hs)
  rw[ab] at aa;rw[(Xd hs (fun k=>k) bad).2.2.2.2.2];exact ZbZ bad x id aa
 ·cases x with
  | agg cs=>exact JF bad cs id aa
  | clo f cs=>exact JF bad cs id aa
  | tup cs=>simp[ZD,ZP,Zn,Zf] at aa
  | d x=>simp[ZD,ZP,Zn,Zf] at aa
  | _=>exact absurd rfl hs
theorem Zij (bad:List Nat) (x:AV):∀ id∈Zm (kill bad x),id∈Zm x∧id∉bad:=by
 intro id aa;by_cases hs:x.small=true
 ·rw[(Xd hs (fun k=>k) bad).2.2.1] at aa;have ab : Zm (ZP bad x)=Zf (ZP bad x):=by
   cases x<;>simp only[ZP]<;>first | rfl | (split<;>rfl) | (cases hs)
  rw[ab] at aa;rw[(Xd hs (fun k=>k) bad).2.2.2.2.1];exact ZbZ bad x id aa
 ·cases x with
  | tup vs=>
   obtain⟨y,hy,aa⟩:=Kr.1 aa;obtain⟨x,hx,rfl⟩:=Lc.1 hy;obtain⟨h1,h2⟩:=Zb0 bad x id aa;exact⟨Kr.2 ⟨x,hx,h1⟩,h2⟩
  | agg cs=>exact JF bad cs id aa
  | clo f cs=>exact JF bad cs id aa
  | d x=>simp[kill,ZD,ZP,Zm,Zn,Zf] at aa
  | _=>exact absurd rfl hs
end
theorem Vw (hp:Hp):∀ (n:Nat) (todo aa:List Nat),aa.Nodup→(Qu hp n todo aa).Nodup∧(∀ id∈aa,id∈Qu hp n todo aa)∧(∀ id∈Qu hp n todo aa,id∈aa∨∃ o,lkp hp id=some o)
 | 0,todo,aa,h=>by simp only[Qu];exact⟨h,fun _ h=>h,fun _ h=>.inl h⟩
 | n+1,[],aa,h=>by simp only[Qu];exact⟨h,fun _ h=>h,fun _ h=>.inl h⟩
 | n+1,id :: todo,aa,h=>by
  simp only[Qu];split
  ·exact Vw hp n todo aa h
  ·rename_i hc;cases hl:lkp hp id with
   | none=>simp only[VF];exact Vw hp n todo aa h
   | some o=>
    simp only[VF];have ab:(aa++[id]).Nodup:=by
     rw[LI];refine⟨h,by simp,?_⟩;intro a ha b hb;simp at hb;subst hb;intro e;subst e;simp at hc;exact hc ha
    obtain⟨h1,h2,h3⟩:=Vw hp n (todo++Vu o) (aa++[id]) ab;refine⟨h1,fun x hx=>h2 x (by simp[hx]),fun x hx=>?_⟩;rcases h3 x hx with h4 | h4
    ·simp at h4;rcases h4 with h4 | rfl
     ·exact .inl h4
     ·exact .inr ⟨o,hl⟩
    ·exact .inr h4
theorem Zcy:∀ {ids:List Nat} {id:Nat},id∈ids→Yd ids id<ids.length∧ids[Yd ids id]?=some id
 | [],_,h=>by simp at h
 | x :: r,id,h=>by
  simp only[Yd];split
  ·rename_i e;subst e;simp
  ·rename_i e;rcases Ke.1 h with h | h
   ·exact absurd h.symm e
   ·obtain⟨h1,h2⟩:=Zcy h;exact⟨by simp;omega,by simpa using h2⟩
theorem Zbb:∀ {ids:List Nat},ids.Nodup→∀ {k id:Nat},ids[k]?=some id→Yd ids id=k
 | [],_,k,id,h=>by simp at h
 | x :: r,hn,k,id,h=>by
  rw[K9] at hn;cases k with
  | zero=>simp at h;subst h;simp[Yd]
  | succ k=>
   simp at h;have aa:x≠id:=fun e=>hn.1 (e ▸ Kg h);simp only[Yd,Kp aa,Zbb hn.2 h]
def Znq {α:Type} (b:Option α):Option α→Option α
 | some v=>some v
 | none=>b
theorem Zcz {α:Type}:∀ (l:List (Nat×α)) (k:Nat) (v:α) (t:Nat),lkp (l++[(k,v)]) t=Znq (if k=t then some v else none) (lkp l t)
 | [],k,v,t=>by simp[lkp,Znq]
 | (j,x) :: l,k,v,t=>by
  by_cases h:j=t
  ·simp[lkp,h,Znq]
  ·simp[lkp,h,Zcz l k v t]
theorem Vx:∀ (l:List Zh) (k i:Nat),lkp (Yu k l) i=if k≤i then l[i-k]? else none
 | [],k,i=>by simp[Yu,lkp]
 | o :: r,k,i=>by
  simp only[Yu,Zcz,Vx r];by_cases h1:k=i
  ·subst h1;simp[Znq,Nat.not_succ_le_self]
  ·by_cases h2:k≤i
   ·rw[Kp h1,Kt (by omega),Kt h2];have:i-k=(i-(k+1))+1:=by omega
    rw[this];simp;cases r[i-(k+1)]? <;> rfl
   ·rw[Kp h1,Kp (by omega),Kp h2];rfl
theorem Zfx (hp:Hp):∀ (ids:List Nat) (k:Nat),(UX hp ids)[k]?=(ids[k]?).map fun id=>ZkU (lkp hp id)
 | [],k=>by simp[UX]
 | id :: r,0=>by simp[UX]
 | id :: r,k+1=>by simp[UX,Zfx hp r k]
end Go.Abs
set_option linter.unusedVariables false
set_option linter.unusedSimpArgs false
namespace Go.Abs
open Go
structure Pre (F A I:Nat→Prop) (Γ:Gh) (h:List Zh) (as:List AV) (args:List Value) (w:World):Prop where
 args:Zp (Rep Γ w I) as args
 objs:V9 Γ w I F A (Yu 0 h)
 inj:∀ i j o o' b,lkp (Yu 0 h) i=some o→lkp (Yu 0 h) j=some o'→Blk Γ w i o b→Blk Γ w j o' b→i=j
 bound:∀ b,I b→b<w.heap.size
 fresh:∀ b,w.heap.size≤b→F b
 own:∀ b,F b→A b
 names:∀ id,h.length≤id→Γ id=none
 glob:ZdT I w
structure Back (F A I:Nat→Prop) (Γ:Gh) (w:World) (hs:List Zh) (res:AV) (I' : Nat→Prop) (Γ' : Gh) (v:Value) (w' : World):Prop where
 heads:ZU Γ Γ'
 keeps:ZB I I' w w'
 sub:∀ b,I' b→I b∨F b
 fr:Fr F w w'
 res:Rep Γ' w' I' res v
 objs:V9 Γ' w' I' F A (Yu 0 hs)
 inj:∀ i j o o' b,lkp (Yu 0 hs) i=some o→lkp (Yu 0 hs) j=some o'→Blk Γ' w' i o b→Blk Γ' w' j o' b→i=j
 bound:∀ b,I' b→b<w'.heap.size
 names:∀ id,hs.length≤id→Γ' id=none
def Enters (P:Program) (f:FuncId):Prop:=∃ fn,P.funcs[f]?=some fn∧(fn.name == "runtime.NumGoroutine")=false∧fn.body.isNone=false
def Zfy (P:Program) (f:FuncId) (as:List AV) (h:List Zh) (res:AV) (hs:List Zh):Prop:=
 Enters P f∧∀ (F A I:Nat→Prop) (Γ:Gh) (args:List Value) (w:World),Pre F A I Γ h as args w→Calls P f args.toArray w fun e w'=>∃ v I' Γ',e=.returned v∧Back F A I Γ w hs res I' Γ' v w'
def Qc (P:Program) (C:Orc):Prop:=∀ f as h res hs,C f as h=some (res,hs)→Zfy P f as h res hs
section
variable {P:Program} {nt:Nat} {U:Nat→Prop} {F A I:Nat→Prop} {Γ:Gh} {sl:Sl} {hp:Hp} {a:Act} {w:World}
def Zkk (P:Program) (nt:Nat) (F A I:Nat→Prop) (Γ:Gh) (U:Nat→Prop) (sl:Sl) (hp:Hp) (a:Act) (w:World) (o:Oper) (base:Nat) (ce:Zb):Prop:=
 ∀ (K:Act→World→Prop) (Q:Exit→Act→World→Prop),(∀ u w',XQ nt F A I Γ w (VI U base) (ce.on o.dst sl hp).1 (ce.on o.dst sl hp).2 (a.put o.dst u) w'→K (a.put o.dst u) w')→o.wp P a w K Q
theorem U6.opWp {o:Oper} {base:Nat} {ce:Zb} (h:U6 P nt F A I Γ U sl hp a w o base ce):Zkk P nt F A I Γ U sl hp a w o base ce:=by
 intro K Q hK;obtain⟨u,w',h1,h2⟩:=h;exact h1.wp (hK u w' h2)
def ZhP (Γ:Gh) (w:World) (hp:Hp) (I' : Nat→Prop) (ids:List Nat):Prop:=∀ id∈ids,∀ o b,lkp hp id=some o→ZaF (some o)=true→Blk Γ w id o b→I' b
theorem ZhP.sub {I' : Nat→Prop} {ids aa : List Nat} (h:ZhP Γ w hp I' ids) (hs:∀ id∈aa,id∈ids):ZhP Γ w hp I' aa:=fun id ab=>h id (hs id ab)
theorem Zly (h:V9 Γ w I F A hp) (ids:List Nat):ZhP Γ w hp (ZaU Γ w hp I ids) ids:=by
 intro id aa o b hl hr hb;cases o with
 | box cs=>cases hr
 | gone=>exact hb.isGone.elim
 | tree sz ns xs lk=>exact .inr ⟨id,aa,_,hl,rfl,hb⟩
 | row sz xs ex fz=>
  cases fz with
  | false=>exact .inr ⟨id,aa,_,hl,rfl,hb⟩
  | true=>
   have hb:=hb.row;obtain⟨ad,n,c,h1,h2,h3⟩:=h id _ hl;rw[h1] at hb;obtain⟨ae,rfl,rfl,hc⟩:=ZiY hb;rcases h3 with h3 | ⟨g,q0,cur,e,hg,h4,h5,h6,h7,h8,h9,ab,af⟩
   ·exact absurd h3.2 hc
   ·cases hg;exact .inl (by simpa using ab)
theorem Zkl (h:V9 Γ w I F A hp) {I' : Nat→Prop} (hI:∀ b,I b→I' b) {id:Nat} (aa:ZhP Γ w hp I' [id]) {xs:List D} (he:Vt (lkp hp id)=some xs) :
  ∃ ad n c sz,Γ id=some (.row ad n c sz)∧n=xs.length∧n≤c∧((n=0∧c=0)∨∃ g q,ad=some ⟨g,q,none⟩∧I' g∧0<sz∧YS w I' g sz xs q):=by
 unfold Vt at he;split at he
 ·rename_i sz af ex fz hl;cases he;obtain⟨ad,n,c,h1,h2,h3⟩:=h id _ hl;refine⟨ad,n,c,sz,h1,h2,?_⟩;rcases h3 with h3 | ⟨g,q0,cur,e,rfl,hc,hw,h4,h5,h6,h7,h8,hF,h9⟩
  ·exact⟨by omega,.inl h3⟩
  ·refine⟨h4,.inr ⟨g,q0,rfl,aa id (by simp) _ g hl rfl (.inl (by rw[h1];simp[Zo,Ku hc])),h7,?_⟩⟩;cases ex
   ·exact h9.mono' (Wk hI) rfl
   ·exact h9.mono' ⟨fun b hb=>hI b hb.1,fun _ _=>rfl⟩ rfl
 ·rename_i sz ns af hl;cases he;obtain⟨ad,n,c,h1,⟨h2,h3⟩,_⟩:=h id _ hl;refine⟨ad,n,c,sz,h1,h2,?_⟩;rcases h3 with h3 | ⟨g,cur,e,B,rfl,hc,hw,h4,h5,h6,ab,h8,h9,ag⟩
  ·exact⟨by omega,.inl ⟨h3.1,h3.2.1⟩⟩
  ·have ae:Zo (Γ id)=some g:=by rw[h1];simp[Zo,Ku hc]
   exact⟨h4,.inr ⟨g,0,rfl,aa id (by simp) _ g hl rfl (.inl ae),ab,h8.rep fun b hb=>aa id (by simp) _ b hl rfl (.inr (.inl ⟨g,B,ae,h8,hb⟩))⟩⟩
 ·cases he
theorem Zjn (h:V9 Γ w I F A hp) {I' : Nat→Prop} (hI:∀ b,I b→I' b) {x:AV} {v:Value} (hx:Rep Γ w I x v) (aa:ZhP Γ w hp I' (UF x)) {d:D} (hd:ZbC hp x=some d):QV w I' d v:=by
 unfold ZbC at hd;split at hd
 ·cases hd;exact(QB.1 hx).mono (Wk hI)
 ·cases hd;obtain⟨ad,rfl⟩:=hx;exact⟨ad,0,rfl,by simp,.inl rfl⟩
 ·rename_i id;obtain⟨xs,h1,hd⟩:=Za hd;cases hd;obtain⟨ad,n,c,sz,h2,h3,h4,h5⟩:=Zkl h hI aa h1;obtain⟨aj,n',c',af,h6,rfl⟩:=hx;rw[h2] at h6;cases h6;refine⟨ad,c,by rw[h3],by omega,?_⟩;rcases h5 with h5 | ⟨g,q,rfl,h7,h8,h9⟩
  ·exact .inl (Kh (by omega))
  ·exact .inr ⟨g,q,sz,rfl,h7,h8,h9⟩
 ·rename_i id off n;obtain⟨xs,h1,hd⟩:=Za hd;cases hd;obtain⟨ad,m,c,sz,h2,h3,h4,h5⟩:=Zkl h hI aa h1;obtain⟨a0,m',c',af,av,h6,h7,h8,rfl,h9,ab⟩:=hx;rw[h2] at h6;cases h6;have ae:n=((xs.drop off).take n).length:=by simp;omega
  refine⟨av,c-off,by rw[← ae],by omega,?_⟩;by_cases hn:n=0
  ·exact .inl (Kh (by omega))
  ·rcases h5 with h5 | ⟨g,q,rfl,ag,ah,ai⟩
   ·omega
   ·rcases ab with ab | ab
    ·subst ab;exact .inr ⟨g,q+off*sz,sz,by simp[Yq],ag,ah,ZaY ai off n⟩
    ·omega
 ·cases hd
theorem ZmD (h:V9 Γ w I F A hp) {I' : Nat→Prop} (hI:∀ b,I b→I' b):∀ {xs:List AV} {vs:List Value} {ds:List D},Zp (Xj Γ w I) xs vs→ZhP Γ w hp I' (xs.flatMap UF)→Z7 (ZbC hp) xs=some ds→Vb D.one ds=true→Qt w I' ds vs
 | [],[],ds,_,_,hd,_=>by simp only[Z7] at hd;cases hd;simp[Qt]
 | [],_ :: _,_,h,_,_,_=>h.elim
 | _ :: _,[],_,h,_,_,_=>h.elim
 | x :: xs,v :: vs,ds,hr,hl,hd,h1=>by
  simp only[Z7] at hd;obtain⟨d,h2,hd⟩:=Za hd;obtain⟨ab,h3,hd⟩:=Za hd;cases hd;simp only[Vb,Kb] at h1;refine⟨v,vs,rfl,h1.1,(QV.one h1.1).1 (Zjn h hI hr.1.rep2.rep (hl.sub fun id aa=>by simp only[Kz,Kc];exact .inl aa) h2),ZmD h hI hr.2 (hl.sub fun id aa=>by simp only[Kz,Kc];exact .inr aa) h3 h1.2⟩
theorem Zlz (h:V9 Γ w I F A hp) {I' : Nat→Prop} (hI:∀ b,I b→I' b) {x:AV} {v:Value} (hx:Rep Γ w I x v) (aa:ZhP Γ w hp I' (JD x)) {d:D} (hd:toD hp x=some d):QV w I' d v:=by
 unfold toD at hd;split at hd
 ·rename_i cs;obtain⟨ds,h1,hd⟩:=Za hd;split at hd
  ·rename_i h2;cases hd;obtain⟨vs,rfl,h3⟩:=hx;exact⟨vs,rfl,ZmD h hI h3 aa h1 h2⟩
  ·cases hd
 ·rename_i ab;refine Zjn h hI hx ?_ hd;cases x<;>first | exact aa | (exact absurd rfl (ab _))
def ZmE (x y:AV):List Nat:=match y with
 | .d _=>JD x
 | _=>[]
theorem Zp4 (h:V9 Γ w I F A hp) {I' : Nat→Prop} (hI:∀ b,I b→I' b) {m:Bool} {x y:AV} {v:Value} (hx:Rep Γ w I x v) (ha:UC hp m x=some y) (aa:ZhP Γ w hp I' (ZmE x y)):Rep Γ w I' y v:=by
 have keep:Rep Γ w I' x v:=hx.mono (ZU.refl Γ) (Wk hI);unfold UC at ha;split at ha
 ·cases ha;exact keep
 ·cases ha;exact keep
 ·cases ha;exact keep
 ·cases ha;exact keep
 ·cases ha;exact keep
 ·rename_i id;cases m
  ·simp only[JN,asD] at ha;obtain⟨d,h1,ha⟩:=Za ha;cases ha;exact QB.2 (Zjn h hI hx aa h1)
  ·simp only[JN] at ha;cases ha;exact keep
 ·cases m
  ·simp only[ZaE] at ha;cases ha;exact QB.2 (Zlz h hI hx aa rfl)
  ·simp only[ZaE] at ha;cases ha;exact keep
 ·cases ha;exact keep
 ·cases m
  ·simp only[JO,asD] at ha;obtain⟨d,h1,ha⟩:=Za ha;cases ha;exact QB.2 (Zlz h hI hx aa h1)
  ·simp only[JO] at ha;split at ha
   ·cases ha
   ·cases ha;exact keep
 ·obtain⟨d,h1,ha⟩:=Za ha;cases ha;exact QB.2 (Zlz h hI hx aa h1)
theorem Zej (x y:AV) (xs ys:List AV):Xh (x :: xs) (y :: ys)=ZmE x y++Xh xs ys:=by
 cases y<;>simp[Xh,ZmE]
theorem ZmF (h:V9 Γ w I F A hp) {I' : Nat→Prop} (hI:∀ b,I b→I' b) (m:Nat→Bool):∀ {xs ys:List AV} {vs:List Value} (i:Nat),Zp (Rep Γ w I) xs vs→args hp m i xs=some ys→ZhP Γ w hp I' (Xh xs ys)→Zp (Rep Γ w I') ys vs
 | [],ys,[],i,_,ha,_=>by simp only[args] at ha;cases ha;exact trivial
 | [],_,_ :: _,_,h,_,_=>h.elim
 | _ :: _,_,[],_,h,_,_=>h.elim
 | x :: xs,ys,v :: vs,i,hr,ha,hl=>by
  simp only[args] at ha;obtain⟨y,h1,ha⟩:=Za ha;obtain⟨ab,h2,ha⟩:=Za ha;cases ha;rw[Zej] at hl;exact⟨Zp4 h hI hr.1 h1 (hl.sub fun id aa=>by simp[aa]),ZmF h hI m (i+1) hr.2 h2 (hl.sub fun id aa=>by simp[aa])⟩
def Zao (ids:List Nat) (Γ:Gh):Gh:=fun k=>match ids[k]? with
 | some id=>Γ id
 | none=>none
theorem XE {ids:List Nat} {k id:Nat} (h:ids[k]?=some id):Zao ids Γ k=Γ id:=by simp[Zao,h]
theorem Zap {ids l:List Nat} (h:∀ id∈l,id∈ids):Wn Γ (Zao ids Γ) (Yd ids) l:=by
 intro id aa r hr;rw[XE (Zcy (h id aa)).2];exact hr
theorem Zek {S S' : Nat→Prop} {b sz:Nat} {ys:List D} (hf:Vb D.flat ys=true) {o:Nat} (h:YS w S b sz ys o):YS w S' b sz ys o:=by
 rw[Q8] at h ⊢;intro i x hx;obtain⟨vs,h1,h2,h3⟩:=h i x hx;refine⟨vs,h1,h2,?_⟩;have aa : x.flat=true:=by
  clear h h1 h2 h3
  induction ys generalizing i with
  | nil=>simp at hx
  | cons y ys ih=>
   simp only[Vb,Kb] at hf;cases i with
   | zero=>simp at hx;subst hx;exact hf.1
   | succ i=>simp at hx;exact ih hf.2 i hx
 have one:∀ {y:D} {v:Value},y.plain=true→ZG w S y [v]→ZG w S' y [v]:=by
  intro y v hy hv;cases y<;>first | (simpa [ZG] using hv) | (simp[D.plain] at hy)
 have all:∀ (ds:List D) (us:List Value),Vb D.plain ds=true→Qt w S ds us→Qt w S' ds us:=by
  intro ds
  induction ds with
  | nil=>intro us _ h;simpa [Qt] using h
  | cons d ds ih=>
   intro us hp h;simp only[Vb,Kb] at hp;obtain⟨v,r,h1,h2,h3,h4⟩:=h;exact⟨v,r,h1,h2,one hp.1 h3,ih r hp.2 h4⟩
 have:=all x.cells vs aa h3.cells;exact Zh0 (QE.1 this)
theorem Zc0.give {I' F' A' : Nat→Prop} {ad:Option Addr} {n c sz:Nat} {ys:List D} (h:Zc0 w I F A ad n c sz ys true false) (hf:Vb D.flat ys=true)
  (hb:∀ b,Zo (some (.row ad n c sz))=some b→F b→F' b∧(I' b→I b)):Zc0 w I' F' A' ad n c sz ys true false:=by
 obtain⟨h2,h3⟩:=h;refine⟨h2,?_⟩;rcases h3 with h3 | ⟨g,q0,cur,e,rfl,hc,hw,h4,h5,h6,h7,h8,aa,h9⟩
 ·exact .inl h3
 ·obtain⟨ab,ae⟩:=hb g (by simp[Zo,Ku hc]) aa;exact .inr ⟨g,q0,cur,e,rfl,hc,hw,h4,h5,h6,h7,by simp at h8 ⊢;exact fun hi=>h8 (ae hi),ab,Zek hf h9⟩
theorem Zkm {ids:List Nat} {id k:Nat} (hk:ids[k]?=some id) {o:Zh} (ho:Xo Γ w I F A id o) {I' F' A' : Nat→Prop} (hI:∀ b,I b→I' b) (hF:∀ b,Blk Γ w id o b→F' b) (hA:∀ b,I b→A b→A' b)
  (hn:∀ b,Blk Γ w id o b→I' b→I b):Xo (Zao ids Γ) w I' F' A' k (Wz ids o):=by
 cases o with
 | gone=>
  obtain⟨r,hr⟩:=ho;exact⟨r,by rw[XE hk,hr]⟩
 | tree sz ns xs lk=>
  obtain⟨ad,n,c,h1,h2,h3⟩:=ho;refine⟨ad,n,c,by rw[XE hk,h1],?_,Xa.lose (Xa.kill (Γ':=Γ) h3 (fun _ _ _ h=>h) fun _ _=>rfl)⟩;rw[Vn,Vo];refine h2.mono fun b hb=>?_;rw[← h1] at hb;have ab : Blk Γ w id (.tree sz ns xs lk) b:=hb.elim .inl fun h=>.inr (.inl h);exact⟨rfl,hn b ab,fun _=>hF b ab⟩
 | box cs=>
  obtain⟨b,cur,e,h1,h2,h3,h4,h5,af⟩:=ho;have hb:Blk Γ w id (.box cs) b:=.inl (by rw[h1];rfl);refine⟨b,cur,e,by rw[XE hk,h1],h2,fun hi=>h3 (hn b hb hi),hF b hb,?_,((af.mono fun x te l u v g hc hv hg=>have hB:=Or.inr (Or.inr (Zmq h1 h2 hc hv hg));⟨rfl,hn g hB,fun _=>hF g hB⟩).map (Ve _)).map (W4 _)⟩;have h6:Zp (QP Γ w I) (cs.map (ZD ((Vu (.box cs)).filter fun i=>!ids.contains i))) cur.toList:=h5.map_left fun _ _ h=>ZdB h;refine Jh (Zap fun ae aa=>?_) (Wk hI) h6;obtain⟨y,hy,aa⟩:=Kr.1 aa;obtain⟨x,hx,rfl⟩:=Lc.1 hy;obtain⟨h7,h8⟩:=Zb0 _ x ae aa;have h9:ae∈Vu (.box cs):=Kr.2 ⟨x,hx,h7⟩
  simp only[List.mem_filter,KI,KF,KT,not_and,Decidable.not_not] at h8;exact h8 h9
 | row sz xs ex fz=>
  obtain⟨ad,n,c,h1,h2,h3⟩:=ho;refine⟨ad,n,c,by rw[XE hk,h1],h2,?_⟩;rcases h3 with h3 | ⟨g,q0,cur,e,rfl,hc,hw,h4,h5,h6,h7,h8,ag,h9⟩
  ·exact .inl h3
  ·have hb:Blk Γ w id (.row sz xs ex fz) g:=.inl (by rw[h1];simp[Zo,Ku hc]);refine .inr ⟨g,q0,cur,e,rfl,hc,hw,h4,h5,h6,h7,?_,hF g hb,?_⟩
   ·cases fz
    ·simp at h8 ⊢;exact fun hi=>h8 (hn g hb hi)
    ·simp at h8 ⊢;exact hI g h8
   ·cases ex
    ·exact h9.mono' (Wk hI) rfl
    ·simp only[Kl] at h9 ⊢;exact h9.mono' ⟨fun b hb=>⟨hI b hb.1,hA b hb.1 hb.2⟩,fun _ _=>rfl⟩ rfl
end
end Go.Abs
