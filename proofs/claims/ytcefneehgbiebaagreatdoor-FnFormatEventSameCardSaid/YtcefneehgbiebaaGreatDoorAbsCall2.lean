/- Own text. -/
import Derived.Test.YtcefneehgbiebaaGreatDoorAbsStep8
set_option linter.unusedVariables false
set_option linter.unusedSimpArgs false
namespace Go.Abs
open Go
section
variable {Γ Γ' : Gh} {w w' : World} {I I' : Nat→Prop}
def AV.small:AV→Bool
 | .d _=>false
 | .agg _=>false
 | .tup _=>false
 | .clo _ _=>false
 | _=>true
theorem W0 {x:AV} (hs:x.small=true) (v:Value):(Rep Γ w I x v=Y9 Γ w I x v)∧(JI Γ w I x v=Y9 Γ w I x v)∧(XJ Γ w I x v=Y9 Γ w I x v):=by
 cases x<;>first | exact⟨rfl,rfl,rfl⟩ | cases hs
theorem YD {x:AV} (hs:x.small=true) (g:Nat→Nat) (bad:List Nat) :
  ren g x=Zee g x∧Zef g x=Zee g x∧kill bad x=Qa bad x∧ZT bad x=Qa bad x∧ZB x=Zm x∧ZC x=Zm x:=by
 cases x<;>first | exact⟨rfl,rfl,rfl,rfl,rfl,rfl⟩ | cases hs
def ZaZ (Γ Γ' : Gh) (g:Nat→Nat) (ids:List Nat):Prop:=∀ id∈ids,∀ r,Γ id=some r→Γ' (g id)=some r
theorem Zjb {g:Nat→Nat} {x:AV} {v:Value} (hg:ZaZ Γ Γ' g (Zm x)) (hk:ZP I I' w w') (h:Y9 Γ w I x v):Y9 Γ' w' I' (Zee g x) v:=by
 cases x with
 | d x=>exact⟨h.1,h.2.mono hk⟩
 | nil=>exact h
 | nilp=>exact h
 | nili=>exact h
 | ptr id off=>obtain⟨b,h1,h2⟩:=h;exact⟨b,hg id (by simp[Zm]) _ h1,h2⟩
 | prow id sz i off=>obtain⟨b,n,c,h1,h2⟩:=h;exact⟨b,n,c,hg id (by simp[Zm]) _ h1,h2⟩
 | pim cs=>obtain⟨b,o,vs,h1,h2,h3,h4⟩:=h;exact⟨b,o,vs,h1,hk.sub b h2,h3.mono (hk.blk b h2),h4.mono hk⟩
 | own id=>obtain⟨a,n,c,sz,h1,h2⟩:=h;exact⟨a,n,c,sz,hg id (by simp[Zm]) _ h1,h2⟩
 | ownv id off n=>obtain⟨a0,m,c,sz,a,h1,h2⟩:=h;exact⟨a0,m,c,sz,a,hg id (by simp[Zm]) _ h1,h2⟩
 | sub id nm=>obtain⟨⟨r,h0⟩,a,n,c,sz,h1,h2⟩:=h;exact⟨⟨r,hg id (by simp[Zm]) _ h0⟩,a,n,c,sz,hg nm (by simp[Zm]) _ h1,h2⟩
 | bnil id e=>obtain⟨b,h1,h2⟩:=h;exact⟨b,hg id (by simp[Zm]) _ h1,h2⟩
 | bbuf a b=>exact h
 | agg cs=>exact h.elim
 | tup cs=>exact h.elim
 | clo f cs=>exact h.elim
 | junk=>exact trivial
theorem Zjc {g:Nat→Nat}:∀ {xs:List AV} {vs:List Value},ZaZ Γ Γ' g (xs.flatMap Zm)→ZP I I' w w'→Zt (Y9 Γ w I) xs vs→Zt (Y9 Γ' w' I') (xs.map (Zee g)) vs
 | [],[],_,_,_=>trivial
 | [],_ :: _,_,_,h=>h.elim
 | _ :: _,[],_,_,h=>h.elim
 | x :: xs,v :: vs,hg,hk,h=>⟨Zjb (fun id aa=>hg id (by simp[aa])) hk h.1,Zjc (fun id aa=>hg id (by simp only[KG,Kg];exact .inr aa)) hk h.2⟩
theorem Zzg {g:Nat→Nat} {x:AV} {v:Value} (hg:ZaZ Γ Γ' g (ZC x)) (hk:ZP I I' w w') (h:XJ Γ w I x v):XJ Γ' w' I' (Zef g x) v:=by
 by_cases hs:x.small=true
 ·rw[(YD hs g []).2.2.2.2.2] at hg;rw[(W0 hs v).2.2] at h;rw[(YD hs g []).2.1];exact(Zjb hg hk h).repB
 ·cases x with
  | clo f cs=>obtain⟨us,h1,h2⟩:=h;exact⟨us,h1,Zjc hg hk h2⟩
  | agg cs=>exact h.elim
  | tup cs=>exact h.elim
  | d x=>exact⟨h.1,h.2.mono hk⟩
  | _=>exact absurd rfl hs
theorem Znz {g:Nat→Nat} {x:AV} {v:Value} (hg:ZaZ Γ Γ' g (ZC x)) (hk:ZP I I' w w') (h:JI Γ w I x v):JI Γ' w' I' (Zef g x) v:=by
 by_cases hs:x.small=true
 ·rw[(YD hs g []).2.2.2.2.2] at hg;rw[(W0 hs v).2.1] at h;rw[(YD hs g []).2.1];exact(Zjb hg hk h).rep2
 ·cases x with
  | clo f cs=>obtain⟨us,h1,h2⟩:=h;exact⟨us,h1,Zjc hg hk h2⟩
  | agg cs=>obtain⟨us,h1,h2⟩:=h;exact⟨us,h1,Zjc hg hk h2⟩
  | tup cs=>exact h.elim
  | d x=>exact Zop.2 ((Zop.1 h).mono hk)
  | _=>exact absurd rfl hs
theorem Zrq {g:Nat→Nat}:∀ {xs:List AV} {vs:List Value},ZaZ Γ Γ' g (xs.flatMap ZC)→ZP I I' w w'→Zt (JI Γ w I) xs vs→Zt (JI Γ' w' I') (xs.map (Zef g)) vs
 | [],[],_,_,_=>trivial
 | [],_ :: _,_,_,h=>h.elim
 | _ :: _,[],_,_,h=>h.elim
 | x :: xs,v :: vs,hg,hk,h=>⟨Znz (fun id aa=>hg id (by simp only[KG,Kg];exact .inl aa)) hk h.1,Zrq (fun id aa=>hg id (by simp only[KG,Kg];exact .inr aa)) hk h.2⟩
theorem Zeg {g:Nat→Nat}:∀ {xs:List AV} {vs:List Value},ZaZ Γ Γ' g (xs.flatMap ZC)→ZP I I' w w'→Zt (XJ Γ w I) xs vs→Zt (XJ Γ' w' I') (xs.map (Zef g)) vs
 | [],[],_,_,_=>trivial
 | [],_ :: _,_,_,h=>h.elim
 | _ :: _,[],_,_,h=>h.elim
 | x :: xs,v :: vs,hg,hk,h=>⟨Zzg (fun id aa=>hg id (by simp only[KG,Kg];exact .inl aa)) hk h.1,Zeg (fun id aa=>hg id (by simp only[KG,Kg];exact .inr aa)) hk h.2⟩
theorem Znl {g:Nat→Nat} {x:AV} {v:Value} (hg:ZaZ Γ Γ' g (ZB x)) (hk:ZP I I' w w') (h:Rep Γ w I x v):Rep Γ' w' I' (ren g x) v:=by
 by_cases hs:x.small=true
 ·rw[(YD hs g []).2.2.2.2.1] at hg;rw[(W0 hs v).1] at h;rw[(YD hs g []).1];exact(Zjb hg hk h).rep2.rep
 ·cases x with
  | tup vs=>obtain⟨us,h1,h2⟩:=h;exact⟨us,h1,Zrq hg hk h2⟩
  | clo f cs=>exact Znz (g:=g) (x:=.clo f cs) hg hk h
  | agg cs=>exact Znz (g:=g) (x:=.agg cs) hg hk h
  | d x=>exact QE.2 ((QE.1 h).mono hk)
  | _=>exact absurd rfl hs
theorem Zho {bad:List Nat} {x:AV} {v:Value} (h:Y9 Γ w I x v):Y9 Γ w I (Qa bad x) v:=by
 cases x<;>simp only[Qa]<;>first | exact h | (split<;>first | exact trivial | exact h)
theorem Zkr {bad:List Nat} {xs:List AV} {vs:List Value} (h:Zt (Y9 Γ w I) xs vs):Zt (Y9 Γ w I) (xs.map (Qa bad)) vs:=h.map_left fun _ _ h=>Zho h
theorem Zks {bad:List Nat} {x:AV} {v:Value} (h:XJ Γ w I x v):XJ Γ w I (ZT bad x) v:=by
 by_cases hs:x.small=true
 ·rw[(W0 hs v).2.2] at h;rw[(YD hs id bad).2.2.2.1];exact(Zho h).repB
 ·cases x with
  | clo f cs=>obtain⟨us,h1,h2⟩:=h;exact⟨us,h1,Zkr h2⟩
  | agg cs=>exact h.elim
  | tup cs=>exact h.elim
  | d x=>exact h
  | _=>exact absurd rfl hs
theorem Zkt {bad:List Nat} {x:AV} {v:Value} (h:JI Γ w I x v):JI Γ w I (ZT bad x) v:=by
 by_cases hs:x.small=true
 ·rw[(W0 hs v).2.1] at h;rw[(YD hs id bad).2.2.2.1];exact(Zho h).rep2
 ·cases x with
  | clo f cs=>obtain⟨us,h1,h2⟩:=h;exact⟨us,h1,Zkr h2⟩
  | agg cs=>obtain⟨us,h1,h2⟩:=h;exact⟨us,h1,Zkr h2⟩
  | tup cs=>exact h.elim
  | d x=>exact h
  | _=>exact absurd rfl hs
theorem Zt3 {bad:List Nat} {x:AV} {v:Value} (h:Rep Γ w I x v):Rep Γ w I (kill bad x) v:=by
 by_cases hs:x.small=true
 ·rw[(W0 hs v).1] at h;rw[(YD hs id bad).2.2.1];exact(Zho h).rep2.rep
 ·cases x with
  | tup vs=>obtain⟨us,h1,h2⟩:=h;exact⟨us,h1,h2.map_left fun _ _ h=>Zkt h⟩
  | clo f cs=>exact(Zkt (bad:=bad) (x:=.clo f cs) h).rep
  | agg cs=>exact(Zkt (bad:=bad) (x:=.agg cs) h).rep
  | d x=>exact h
  | _=>exact absurd rfl hs
theorem Zis (bad:List Nat) (x:AV):∀ id∈Zm (Qa bad x),id∈Zm x∧id∉bad:=by
 intro id aa;cases x<;>simp only[Qa] at aa<;>first
  | (simp[Zm] at aa;done)
  | (split at aa
     ·simp [Zm] at aa
     ·rename_i hb;simp[Zm] at aa hb ⊢;first | (subst aa;simpa using hb) | (rcases aa with rfl | rfl<;>simp[hb]))
theorem Ze1 (bad:List Nat) (xs:List AV):∀ id∈(xs.map (Qa bad)).flatMap Zm,id∈xs.flatMap Zm∧id∉bad:=by
 intro id aa;obtain⟨y,hy,aa⟩:=Kv.1 aa;obtain⟨x,hx,rfl⟩:=K5.1 hy;obtain⟨h1,h2⟩:=Zis bad x id aa;exact⟨Kv.2 ⟨x,hx,h1⟩,h2⟩
theorem Ze2 (bad:List Nat) (x:AV):∀ id∈ZC (ZT bad x),id∈ZC x∧id∉bad:=by
 intro id aa;by_cases hs:x.small=true
 ·rw[(YD hs (fun k=>k) bad).2.2.2.1] at aa;have ab : ZC (Qa bad x)=Zm (Qa bad x):=by
   cases x<;>simp only[Qa]<;>first | rfl | (split<;>rfl) | (cases hs)
  rw[ab] at aa;rw[(YD hs (fun k=>k) bad).2.2.2.2.2];exact Zis bad x id aa
 ·cases x with
  | agg cs=>exact Ze1 bad cs id aa
  | clo f cs=>exact Ze1 bad cs id aa
  | tup cs=>simp[ZT,Qa,ZC,Zm] at aa
  | d x=>simp[ZT,Qa,ZC,Zm] at aa
  | _=>exact absurd rfl hs
theorem Zku (bad:List Nat) (x:AV):∀ id∈ZB (kill bad x),id∈ZB x∧id∉bad:=by
 intro id aa;by_cases hs:x.small=true
 ·rw[(YD hs (fun k=>k) bad).2.2.1] at aa;have ab : ZB (Qa bad x)=Zm (Qa bad x):=by
   cases x<;>simp only[Qa]<;>first | rfl | (split<;>rfl) | (cases hs)
  rw[ab] at aa;rw[(YD hs (fun k=>k) bad).2.2.2.2.1];exact Zis bad x id aa
 ·cases x with
  | tup vs=>
   obtain⟨y,hy,aa⟩:=Kv.1 aa;obtain⟨x,hx,rfl⟩:=K5.1 hy;obtain⟨h1,h2⟩:=Ze2 bad x id aa;exact⟨Kv.2 ⟨x,hx,h1⟩,h2⟩
  | agg cs=>exact Ze1 bad cs id aa
  | clo f cs=>exact Ze1 bad cs id aa
  | d x=>simp[kill,ZT,Qa,ZB,ZC,Zm] at aa
  | _=>exact absurd rfl hs
end
theorem Zbf (hp:Hp):∀ (n:Nat) (todo aa:List Nat),aa.Nodup→(QL hp n todo aa).Nodup∧(∀ id∈aa,id∈QL hp n todo aa)∧(∀ id∈QL hp n todo aa,id∈aa∨∃ o,lkp hp id=some o)
 | 0,todo,aa,h=>by simp only[QL];exact⟨h,fun _ h=>h,fun _ h=>.inl h⟩
 | n+1,[],aa,h=>by simp only[QL];exact⟨h,fun _ h=>h,fun _ h=>.inl h⟩
 | n+1,id :: todo,aa,h=>by
  simp only[QL];split
  ·exact Zbf hp n todo aa h
  ·rename_i hc;cases hl:lkp hp id with
   | none=>simp only[JC];exact Zbf hp n todo aa h
   | some o=>
    simp only[JC];have ab:(aa++[id]).Nodup:=by
     rw[List.nodup_append];refine⟨h,by simp,?_⟩;intro a ha b hb;simp at hb;subst hb;intro e;subst e;simp at hc;exact hc ha
    obtain⟨h1,h2,h3⟩:=Zbf hp n (todo++Zbe o) (aa++[id]) ab;refine⟨h1,fun x hx=>h2 x (by simp[hx]),fun x hx=>?_⟩;rcases h3 x hx with h4 | h4
    ·simp at h4;rcases h4 with h4 | rfl
     ·exact .inl h4
     ·exact .inr ⟨o,hl⟩
    ·exact .inr h4
theorem Zjd:∀ {ids:List Nat} {id:Nat},id∈ids→Wr ids id<ids.length∧ids[Wr ids id]?=some id
 | [],_,h=>by simp at h
 | x :: r,id,h=>by
  simp only[Wr];split
  ·rename_i e;subst e;simp
  ·rename_i e;rcases Kf.1 h with h | h
   ·exact absurd h.symm e
   ·obtain⟨h1,h2⟩:=Zjd h;exact⟨by simp;omega,by simpa using h2⟩
theorem Zhp:∀ {ids:List Nat},ids.Nodup→∀ {k id:Nat},ids[k]?=some id→Wr ids id=k
 | [],_,k,id,h=>by simp at h
 | x :: r,hn,k,id,h=>by
  rw[L3] at hn;cases k with
  | zero=>simp at h;subst h;simp[Wr]
  | succ k=>
   simp at h;have aa:x≠id:=fun e=>hn.1 (e ▸ Kc h);simp only[Wr,Kd aa,Zhp hn.2 h]
def ZxX {α:Type} (b:Option α):Option α→Option α
 | some v=>some v
 | none=>b
theorem Zje {α:Type}:∀ (l:List (Nat×α)) (k:Nat) (v:α) (t:Nat),lkp (l++[(k,v)]) t=ZxX (if k=t then some v else none) (lkp l t)
 | [],k,v,t=>by simp[lkp,ZxX]
 | (j,x) :: l,k,v,t=>by
  by_cases h:j=t
  ·simp[lkp,h,ZxX]
  ·simp[lkp,h,Zje l k v t]
theorem Y7:∀ (l:List Zl) (k i:Nat),lkp (Vu k l) i=if k≤i then l[i-k]? else none
 | [],k,i=>by simp[Vu,lkp]
 | o :: r,k,i=>by
  simp only[Vu,Zje,Y7 r];by_cases h1:k=i
  ·subst h1;simp[ZxX,Nat.not_succ_le_self]
  ·by_cases h2:k≤i
   ·rw[Kd h1,Ki (by omega),Ki h2];have:i-k=(i-(k+1))+1:=by omega
    rw[this];simp;cases r[i-(k+1)]? <;> rfl
   ·rw[Kd h1,Kd (by omega),Kd h2];rfl
theorem Zcm (hp:Hp):∀ (ids:List Nat) (k:Nat),(Zcw hp ids)[k]?=(ids[k]?).map fun id=>Zjv (lkp hp id)
 | [],k=>by simp[Zcw]
 | id :: r,0=>by simp[Zcw]
 | id :: r,k+1=>by simp[Zcw,Zcm hp r k]
end Go.Abs
set_option linter.unusedVariables false
set_option linter.unusedSimpArgs false
namespace Go.Abs
open Go
structure Pre (F A I:Nat→Prop) (Γ:Gh) (h:List Zl) (as:List AV) (args:List Value) (w:World):Prop where
 args:Zt (Rep Γ w I) as args
 objs:ZaA Γ w I F A (Vu 0 h)
 inj:∀ i j o o' b,lkp (Vu 0 h) i=some o→lkp (Vu 0 h) j=some o'→Blk Γ w i o b→Blk Γ w j o' b→i=j
 bound:∀ b,I b→b<w.heap.size
 fresh:∀ b,w.heap.size≤b→F b
 own:∀ b,F b→A b
 names:∀ id,h.length≤id→Γ id=none
 glob:ZiJ I w
structure ZxY (F A I:Nat→Prop) (Γ:Gh) (w:World) (hs:List Zl) (res:AV) (I' : Nat→Prop) (Γ' : Gh) (v:Value) (w' : World):Prop where
 boxes:∀ id b,Γ id=some (.box b)→Γ' id=some (.box b)
 keeps:ZP I I' w w'
 sub:∀ b,I' b→I b∨F b
 fr:Fr F w w'
 res:Rep Γ' w' I' res v
 objs:ZaA Γ' w' I' F A (Vu 0 hs)
 inj:∀ i j o o' b,lkp (Vu 0 hs) i=some o→lkp (Vu 0 hs) j=some o'→Blk Γ' w' i o b→Blk Γ' w' j o' b→i=j
 bound:∀ b,I' b→b<w'.heap.size
 names:∀ id,hs.length≤id→Γ' id=none
def Zgm (P:Program) (f:FuncId):Prop:=∃ fn,P.funcs[f]?=some fn∧(fn.name == "runtime.NumGoroutine")=false∧fn.body.isNone=false
def ZnA (P:Program) (f:FuncId) (as:List AV) (h:List Zl) (res:AV) (hs:List Zl):Prop:=
 Zgm P f∧∀ (F A I:Nat→Prop) (Γ:Gh) (args:List Value) (w:World),Pre F A I Γ h as args w→Calls P f args.toArray w fun e w'=>∃ v I' Γ',e=.returned v∧ZxY F A I Γ w hs res I' Γ' v w'
def QK (P:Program) (C:Orc):Prop:=∀ f as h res hs,C f as h=some (res,hs)→ZnA P f as h res hs
section
variable {P:Program} {nt:Nat} {U:Nat→Prop} {F A I:Nat→Prop} {Γ:Gh} {sl:Sl} {hp:Hp} {a:Act} {w:World}
def Zt4 (P:Program) (nt:Nat) (F A I:Nat→Prop) (Γ:Gh) (U:Nat→Prop) (sl:Sl) (hp:Hp) (a:Act) (w:World) (o:Oper) (base:Nat) (ce:Zd):Prop:=
 ∀ (K:Act→World→Prop) (Q:Exit→Act→World→Prop),(∀ u w',UD nt F A I Γ w (JJ U base) (ce.on o.dst sl hp).1 (ce.on o.dst sl hp).2 (a.put o.dst u) w'→K (a.put o.dst u) w')→o.wp P a w K Q
theorem ZeF.opWp {o:Oper} {base:Nat} {ce:Zd} (h:ZeF P nt F A I Γ U sl hp a w o base ce):Zt4 P nt F A I Γ U sl hp a w o base ce:=by
 intro K Q hK;obtain⟨u,w',h1,h2⟩:=h;exact h1.wp (hK u w' h2)
def Zp5 (Γ:Gh) (w:World) (hp:Hp) (I' : Nat→Prop) (ids:List Nat):Prop:=∀ id∈ids,∀ o b,lkp hp id=some o→Y1 (some o)=true→Blk Γ w id o b→I' b
theorem Zp5.sub {I' : Nat→Prop} {ids aa : List Nat} (h:Zp5 Γ w hp I' ids) (hs:∀ id∈aa,id∈ids):Zp5 Γ w hp I' aa:=fun id ab=>h id (hs id ab)
theorem ZvM (h:ZaA Γ w I F A hp) (ids:List Nat):Zp5 Γ w hp (ZgO Γ w hp I ids) ids:=by
 intro id aa o b hl hr hb;cases o with
 | box cs=>cases hr
 | deep sz ns xs lk=>exact .inr ⟨id,aa,_,hl,rfl,hb⟩
 | row sz xs ex fz=>
  cases fz with
  | false=>exact .inr ⟨id,aa,_,hl,rfl,hb⟩
  | true=>
   have hb:=hb.row;obtain⟨ad,n,c,h1,h2,h3⟩:=h id _ hl;rw[h1] at hb;obtain⟨ae,rfl,rfl,hc⟩:=Zr1 hb;rcases h3 with h3 | ⟨g,cur,e,hg,h4,h5,h6,h7,h8,h9,ab,af⟩
   ·exact absurd h3.2 hc
   ·cases hg;exact .inl (by simpa using ab)
theorem Zt5 (h:ZaA Γ w I F A hp) {I' : Nat→Prop} (hI:∀ b,I b→I' b) {id:Nat} (aa:Zp5 Γ w hp I' [id]) {xs:List D} (he:Jx (lkp hp id)=some xs) :
  ∃ ad n c sz,Γ id=some (.row ad n c sz)∧n=xs.length∧n≤c∧((n=0∧c=0)∨∃ g,ad=some ⟨g,0,none⟩∧I' g∧0<sz∧Jt w I' g sz xs 0):=by
 unfold Jx at he;split at he
 ·rename_i sz af ex fz hl;cases he;obtain⟨ad,n,c,h1,h2,h3⟩:=h id _ hl;refine⟨ad,n,c,sz,h1,h2,?_⟩;rcases h3 with h3 | ⟨g,cur,e,rfl,hc,hw,h4,h5,h6,h7,h8,hF,h9⟩
  ·exact⟨by omega,.inl h3⟩
  ·refine⟨h4,.inr ⟨g,rfl,aa id (by simp) _ g hl rfl (.inl (by rw[h1];simp[Zy,KC hc])),h7,?_⟩⟩;cases ex
   ·exact h9.mono' (ZaK hI) rfl
   ·exact h9.mono' ⟨fun b hb=>hI b hb.1,fun _ _=>rfl⟩ rfl
 ·rename_i sz ns af lk hl;cases he;obtain⟨ad,n,c,h1,hd,_⟩:=h id _ hl;have ag:=hd;obtain⟨h2,h3⟩:=hd;refine⟨ad,n,c,sz,h1,h2,?_⟩;rcases h3 with h3 | ⟨g,cur,e,rfl,hc,hw,h4,h5,h6,ab,h8,ai,aj,ah,ak⟩
  ·exact⟨by omega,.inl h3⟩
  ·have ae:Zy (Γ id)=some g:=by rw[h1];simp[Zy,KC hc]
   exact⟨h4,.inr ⟨g,rfl,aa id (by simp) _ g hl rfl (.inl ae),ab,ZoD ag (fun b hb _=>hI b hb) fun p b hp hn=>aa id (by simp) _ b hl rfl (.inr (.inl ⟨g,p,ae,hp,hn⟩))⟩⟩
 ·cases he
theorem ZsD (h:ZaA Γ w I F A hp) {I' : Nat→Prop} (hI:∀ b,I b→I' b) {x:AV} {v:Value} (hx:Rep Γ w I x v) (aa:Zp5 Γ w hp I' (ZbO x)) {d:D} (hd:ZhX hp x=some d):Xy w I' d v:=by
 unfold ZhX at hd;split at hd
 ·cases hd;exact(QE.1 hx).mono (ZaK hI)
 ·cases hd;obtain⟨ad,rfl⟩:=hx;exact⟨ad,0,rfl,by simp,.inl rfl⟩
 ·rename_i id;obtain⟨xs,h1,hd⟩:=Za hd;cases hd;obtain⟨ad,n,c,sz,h2,h3,h4,h5⟩:=Zt5 h hI aa h1;obtain⟨aj,n',c',af,h6,rfl⟩:=hx;rw[h2] at h6;cases h6;refine⟨ad,c,by rw[h3],by omega,?_⟩;rcases h5 with h5 | ⟨g,rfl,h7,h8,h9⟩
  ·exact .inl (Kp (by omega))
  ·exact .inr ⟨g,0,sz,rfl,h7,h8,h9⟩
 ·rename_i id off n;obtain⟨xs,h1,hd⟩:=Za hd;cases hd;obtain⟨ad,m,c,sz,h2,h3,h4,h5⟩:=Zt5 h hI aa h1;obtain⟨a0,m',c',af,av,h6,h7,h8,rfl,h9,ab⟩:=hx;rw[h2] at h6;cases h6;have ae:n=((xs.drop off).take n).length:=by simp;omega
  refine⟨av,c-off,by rw[← ae],by omega,?_⟩;by_cases hn:n=0
  ·exact .inl (Kp (by omega))
  ·rcases h5 with h5 | ⟨g,rfl,ag,ah,ai⟩
   ·omega
   ·rcases ab with ab | ab
    ·subst ab;exact .inr ⟨g,off*sz,sz,by simp[Uy],ag,ah,by simpa using ZjR ai off n⟩
    ·omega
 ·cases hd
theorem Zxh (h:ZaA Γ w I F A hp) {I' : Nat→Prop} (hI:∀ b,I b→I' b):∀ {xs:List AV} {vs:List Value} {ds:List D},Zt (Y9 Γ w I) xs vs→Zp5 Γ w hp I' (xs.flatMap ZbO)→QF (ZhX hp) xs=some ds→Zbw D.one ds=true→Xr w I' ds vs
 | [],[],ds,_,_,hd,_=>by simp only[QF] at hd;cases hd;simp[Xr]
 | [],_ :: _,_,h,_,_,_=>h.elim
 | _ :: _,[],_,h,_,_,_=>h.elim
 | x :: xs,v :: vs,ds,hr,hl,hd,h1=>by
  simp only[QF] at hd;obtain⟨d,h2,hd⟩:=Za hd;obtain⟨ab,h3,hd⟩:=Za hd;cases hd;simp only[Zbw,Ke] at h1;refine⟨v,vs,rfl,h1.1,(Xy.one h1.1).1 (ZsD h hI hr.1.rep2.rep (hl.sub fun id aa=>by simp only[KG,Kg];exact .inl aa) h2),Zxh h hI hr.2 (hl.sub fun id aa=>by simp only[KG,Kg];exact .inr aa) h3 h1.2⟩
theorem Zzh (h:ZaA Γ w I F A hp) {I' : Nat→Prop} (hI:∀ b,I b→I' b) {x:AV} {v:Value} (hx:Rep Γ w I x v) (aa:Zp5 Γ w hp I' (ZeZ x)) {d:D} (hd:toD hp x=some d):Xy w I' d v:=by
 unfold toD at hd;split at hd
 ·rename_i cs;obtain⟨ds,h1,hd⟩:=Za hd;split at hd
  ·rename_i h2;cases hd;obtain⟨vs,rfl,h3⟩:=hx;exact⟨vs,rfl,Zxh h hI h3 aa h1 h2⟩
  ·cases hd
 ·rename_i ab;refine ZsD h hI hx ?_ hd;cases x<;>first | exact aa | (exact absurd rfl (ab _))
def Zxi (x y:AV):List Nat:=match y with
 | .d _=>ZeZ x
 | _=>[]
theorem ZAJ (h:ZaA Γ w I F A hp) {I' : Nat→Prop} (hI:∀ b,I b→I' b) {m:Bool} {x y:AV} {v:Value} (hx:Rep Γ w I x v) (ha:ZdG hp m x=some y) (aa:Zp5 Γ w hp I' (Zxi x y)):Rep Γ w I' y v:=by
 have keep:Rep Γ w I' x v:=hx.mono (Q4.refl Γ) (ZaK hI);unfold ZdG at ha;split at ha
 ·cases ha;exact keep
 ·cases ha;exact keep
 ·cases ha;exact keep
 ·cases ha;exact keep
 ·cases ha;exact keep
 ·rename_i id;cases m
  ·simp only[Zfb,asD] at ha;obtain⟨d,h1,ha⟩:=Za ha;cases ha;exact QE.2 (ZsD h hI hx aa h1)
  ·simp only[Zfb] at ha;cases ha;exact keep
 ·cases m
  ·simp only[ZgC] at ha;cases ha;exact QE.2 (Zzh h hI hx aa rfl)
  ·simp only[ZgC] at ha;cases ha;exact keep
 ·cases ha;exact keep
 ·obtain⟨d,h1,ha⟩:=Za ha;cases ha;exact QE.2 (Zzh h hI hx aa h1)
theorem ZlF (x y:AV) (xs ys:List AV):YN (x :: xs) (y :: ys)=Zxi x y++YN xs ys:=by
 cases y<;>simp[YN,Zxi]
theorem Zxj (h:ZaA Γ w I F A hp) {I' : Nat→Prop} (hI:∀ b,I b→I' b) (m:Nat→Bool):∀ {xs ys:List AV} {vs:List Value} (i:Nat),Zt (Rep Γ w I) xs vs→args hp m i xs=some ys→Zp5 Γ w hp I' (YN xs ys)→Zt (Rep Γ w I') ys vs
 | [],ys,[],i,_,ha,_=>by simp only[args] at ha;cases ha;exact trivial
 | [],_,_ :: _,_,h,_,_=>h.elim
 | _ :: _,_,[],_,h,_,_=>h.elim
 | x :: xs,ys,v :: vs,i,hr,ha,hl=>by
  simp only[args] at ha;obtain⟨y,h1,ha⟩:=Za ha;obtain⟨ab,h2,ha⟩:=Za ha;cases ha;rw[ZlF] at hl;exact⟨ZAJ h hI hr.1 h1 (hl.sub fun id aa=>by simp[aa]),Zxj h hI m (i+1) hr.2 h2 (hl.sub fun id aa=>by simp[aa])⟩
def Zgn (ids:List Nat) (Γ:Gh):Gh:=fun k=>match ids[k]? with
 | some id=>Γ id
 | none=>none
theorem WC {ids:List Nat} {k id:Nat} (h:ids[k]?=some id):Zgn ids Γ k=Γ id:=by simp[Zgn,h]
theorem Zgo {ids l:List Nat} (h:∀ id∈l,id∈ids):ZaZ Γ (Zgn ids Γ) (Wr ids) l:=by
 intro id aa r hr;rw[WC (Zjd (h id aa)).2];exact hr
theorem Zt6 {S S' : Nat→Prop} {b sz:Nat} {ys:List D} (hf:Zbw D.flat ys=true) {o:Nat} (h:Jt w S b sz ys o):Jt w S' b sz ys o:=by
 rw[X5] at h ⊢;intro i x hx;obtain⟨vs,h1,h2,h3⟩:=h i x hx;refine⟨vs,h1,h2,?_⟩;have aa : x.flat=true:=by
  clear h h1 h2 h3
  induction ys generalizing i with
  | nil=>simp at hx
  | cons y ys ih=>
   simp only[Zbw,Ke] at hf;cases i with
   | zero=>simp at hx;subst hx;exact hf.1
   | succ i=>simp at hx;exact ih hf.2 i hx
 have one:∀ {y:D} {v:Value},y.plain=true→ZO w S y [v]→ZO w S' y [v]:=by
  intro y v hy hv;cases y<;>first | (simpa [ZO] using hv) | (simp[D.plain] at hy)
 have all:∀ (ds:List D) (us:List Value),Zbw D.plain ds=true→Xr w S ds us→Xr w S' ds us:=by
  intro ds
  induction ds with
  | nil=>intro us _ h;simpa [Xr] using h
  | cons d ds ih=>
   intro us hp h;simp only[Zbw,Ke] at hp;obtain⟨v,r,h1,h2,h3,h4⟩:=h;exact⟨v,r,h1,h2,one hp.1 h3,ih r hp.2 h4⟩
 have:=all x.cells vs aa h3.cells;exact ZdO (Xn.1 this)
theorem ZeC.give {I' F' A' : Nat→Prop} {ad:Option Addr} {n c sz:Nat} {ys:List D} (h:ZeC w I F A ad n c sz ys true false) (hf:Zbw D.flat ys=true)
  (hb:∀ b,Zy (some (.row ad n c sz))=some b→F b→F' b∧(I' b→I b)):ZeC w I' F' A' ad n c sz ys true false:=by
 obtain⟨h2,h3⟩:=h;refine⟨h2,?_⟩;rcases h3 with h3 | ⟨g,cur,e,rfl,hc,hw,h4,h5,h6,h7,h8,aa,h9⟩
 ·exact .inl h3
 ·obtain⟨ab,ae⟩:=hb g (by simp[Zy,KC hc]) aa;exact .inr ⟨g,cur,e,rfl,hc,hw,h4,h5,h6,h7,by simp at h8 ⊢;exact fun hi=>h8 (ae hi),ab,Zt6 hf h9⟩
theorem Wu.give {I' F' A' : Nat→Prop} {ns:Nat} {y:D} {v:Value} (h:Wu w I F A ns y v) (hb:∀ b,Yt v=some b→F b→F' b∧(I' b→I b)):Wu w I' F' A' ns y v:=by
 cases y with
 | sl ys=>
  obtain⟨a,c,rfl,h2,h3⟩:=h;refine⟨a,c,rfl,h2.give h3 fun b aa=>hb b ?_,h3⟩;cases a with
  | none=>simp[Zy] at aa
  | some ad=>simpa [Yt,Zy] using aa
 | int k n=>exact⟨h.1,by simpa [ZO] using h.2⟩
 | bool k=>exact⟨h.1,by simpa [ZO] using h.2⟩
 | str k=>exact⟨h.1,by simpa [ZO] using h.2⟩
 | agg cs=>exact absurd h.1 (by simp[D.plain])
theorem ZcF.give {I' F' A' : Nat→Prop} {ad:Option Addr} {n c sz ns:Nat} {xs:List D} (h:ZcF w I F A ad n c sz ns xs)
  (aa:∀ b,Zy (some (.row ad n c sz))=some b→F b→F' b∧(I' b→I b)) (ah:∀ g p b,Zy (some (.row ad n c sz))=some g→p<xs.length*sz→YG w g p=some b→F b→F' b∧(I' b→I b)):ZcF w I' F' A' ad n c sz ns xs:=by
 obtain⟨h2,h3⟩:=h;refine⟨h2,?_⟩;rcases h3 with h3 | ⟨g,cur,e,rfl,hc,hw,h4,h5,h6,ab,h8,ai,aj,ae,ak⟩
 ·exact .inl h3
 ·have af:Zy (some (.row (some ⟨g,0,none⟩) n c sz))=some g:=by simp[Zy,KC hc]
  obtain⟨al,am⟩:=aa g af ai;refine .inr ⟨g,cur,e,rfl,hc,hw,h4,h5,h6,ab,fun hi=>h8 (am hi),al,?_,ae,ak⟩;intro i x hx;obtain⟨vs,v1,v2,v3⟩:=aj i x hx;refine⟨vs,v1,v2,Zt.of_get v3.length fun j y v hy hv=>?_⟩;obtain⟨v',ag,hn⟩:=v3.get j y hy;rw[hv] at ag;cases ag;refine hn.give fun b hb=>ah g (i*sz+j) b af ?_ (ZhJ (v2 j v hv) hb);have hi:i<xs.length:=(Kb.1 hx).1;have hj:j<sz:=by rw[← v1];exact(Kb.1 hv).1
  have:=KB sz (show i+1≤xs.length from hi);rw[KE] at this;omega
theorem Zt7 {ids:List Nat} {id k:Nat} (hk:ids[k]?=some id) {o:Zl} (ho:VY Γ w I F A id o) {I' F' A' : Nat→Prop} (hI:∀ b,I b→I' b) (hF:∀ b,Blk Γ w id o b→F' b) (hA:∀ b,I b→A b→A' b)
  (hn:∀ b,Blk Γ w id o b→I' b→I b):VY (Zgn ids Γ) w I' F' A' k (JD ids o):=by
 cases o with
 | deep sz ns xs lk=>
  obtain⟨ad,n,c,h1,h2,_⟩:=ho;exact⟨ad,n,c,by rw[WC hk,h1],h2.give (fun b hb _=>have:=Or.inl (h1 ▸ hb);⟨hF b this,hn b this⟩) (fun g p b hg hp hb _=>have:=Or.inr (Or.inl ⟨g,p,h1 ▸ hg,hp,hb⟩);⟨hF b this,hn b this⟩),trivial⟩
 | box cs=>
  obtain⟨b,cur,e,h1,h2,h3,h4,h5,ae⟩:=ho;have hb:Blk Γ w id (.box cs) b:=.inl (by rw[h1];rfl);refine⟨b,cur,e,by rw[WC hk,h1],h2,fun hi=>h3 (hn b hb hi),hF b hb,?_,((ae.mono fun x te l u v g hc hv hg=>have hB:=Or.inr (Or.inr (ZwJ h1 h2 hc hv hg));⟨rfl,hn g hB,fun _=>hF g hB⟩).map (Jb _)).map (Zci _)⟩;have h6:Zt (XJ Γ w I) (cs.map (ZT ((Zbe (.box cs)).filter fun i=>!ids.contains i))) cur.toList:=h5.map_left fun _ _ h=>Zks h;refine Zeg (Zgo fun ab aa=>?_) (ZaK hI) h6;obtain⟨y,hy,aa⟩:=Kv.1 aa;obtain⟨x,hx,rfl⟩:=K5.1 hy;obtain⟨h7,h8⟩:=Ze2 _ x ab aa;have h9:ab∈Zbe (.box cs):=Kv.2 ⟨x,hx,h7⟩
  simp only[List.mem_filter,KW,KQ,KY,not_and,Decidable.not_not] at h8;exact h8 h9
 | row sz xs ex fz=>
  obtain⟨ad,n,c,h1,h2,h3⟩:=ho;refine⟨ad,n,c,by rw[WC hk,h1],h2,?_⟩;rcases h3 with h3 | ⟨g,cur,e,rfl,hc,hw,h4,h5,h6,h7,h8,af,h9⟩
  ·exact .inl h3
  ·have hb:Blk Γ w id (.row sz xs ex fz) g:=.inl (by rw[h1];simp[Zy,KC hc]);refine .inr ⟨g,cur,e,rfl,hc,hw,h4,h5,h6,h7,?_,hF g hb,?_⟩
   ·cases fz
    ·simp at h8 ⊢;exact fun hi=>h8 (hn g hb hi)
    ·simp at h8 ⊢;exact hI g h8
   ·cases ex
    ·exact h9.mono' (ZaK hI) rfl
    ·simp only[Km] at h9 ⊢;exact h9.mono' ⟨fun b hb=>⟨hI b hb.1,hA b hb.1 hb.2⟩,fun _ _=>rfl⟩ rfl
end
end Go.Abs
