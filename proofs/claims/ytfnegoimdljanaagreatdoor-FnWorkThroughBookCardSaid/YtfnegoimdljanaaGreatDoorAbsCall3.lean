import Derived.Test.YtfnegoimdljanaaGreatDoorAbsStep8
set_option linter.unusedSimpArgs false
set_option linter.unusedVariables false
namespace Go.Abs
open Go
section
variable {Γ Γ' : Gh} {w w' : World} {I I' : Nat→Prop}
def AV.small:AV→Bool
 | .d _=>false
 | .agg _=>false
 | .tup _=>false
 | .clo _ _=>false
 | _=>true
theorem Wi {x:AV} (hs:x.small=true) (v:Value):(Rep Γ w I x v=Yw Γ w I x v)∧(UD Γ w I x v=Yw Γ w I x v)∧(Xw Γ w I x v=Yw Γ w I x v):=by
 cases x<;>first | exact⟨rfl,rfl,rfl⟩ | cases hs
theorem Yq {x:AV} (hs:x.small=true) (g:Nat→Nat) (bad:List Nat) :
  ren g x=ZeR g x∧Zel g x=ZeR g x∧kill bad x=Qb bad x∧ZS bad x=Qb bad x∧Zx x=Zn x∧ZA x=Zn x:=by
 cases x<;>first | exact⟨rfl,rfl,rfl,rfl,rfl,rfl⟩ | cases hs
def J1 (Γ Γ' : Gh) (g:Nat→Nat) (ids:List Nat):Prop:=∀ id∈ids,∀ r,Γ id=some r→Γ' (g id)=some r
theorem Zke {g:Nat→Nat} {x:AV} {v:Value} (hg:J1 Γ Γ' g (Zn x)) (hk:ZO I I' w w') (h:Yw Γ w I x v):Yw Γ' w' I' (ZeR g x) v:=by
 cases x with
 | d x=>exact⟨h.1,h.2.mono hk⟩
 | nil=>exact h
 | nilp=>exact h
 | nili=>exact h
 | ptr id off=>obtain⟨b,h1,h2⟩:=h;exact⟨b,hg id (by simp[Zn]) _ h1,h2⟩
 | prow id sz i off=>obtain⟨b,o,n,c,h1,h2⟩:=h;exact⟨b,o,n,c,hg id (by simp[Zn]) _ h1,h2⟩
 | pim cs=>obtain⟨b,o,vs,h1,h2,h3,h4⟩:=h;exact⟨b,o,vs,h1,hk.sub b h2,h3.mono (hk.blk b h2),h4.mono hk⟩
 | own id=>obtain⟨a,n,c,sz,h1,h2⟩:=h;exact⟨a,n,c,sz,hg id (by simp[Zn]) _ h1,h2⟩
 | ownv id off n=>obtain⟨a0,m,c,sz,a,h1,h2⟩:=h;exact⟨a0,m,c,sz,a,hg id (by simp[Zn]) _ h1,h2⟩
 | bnil id e=>obtain⟨b,h1,h2⟩:=h;exact⟨b,hg id (by simp[Zn]) _ h1,h2⟩
 | bbuf a b=>exact h
 | agg cs=>exact h.elim
 | tup cs=>exact h.elim
 | clo f cs=>exact h.elim
 | junk=>exact trivial
theorem Zkf {g:Nat→Nat}:∀ {xs:List AV} {vs:List Value},J1 Γ Γ' g (xs.flatMap Zn)→ZO I I' w w'→Zy (Yw Γ w I) xs vs→Zy (Yw Γ' w' I') (xs.map (ZeR g)) vs
 | [],[],_,_,_=>trivial
 | [],_ :: _,_,_,h=>h.elim
 | _ :: _,[],_,_,h=>h.elim
 | x :: xs,v :: vs,hg,hk,h=>⟨Zke (fun id aa=>hg id (by simp[aa])) hk h.1,Zkf (fun id aa=>hg id (by simp only[KQ,Kh];exact .inr aa)) hk h.2⟩
theorem ZAG {g:Nat→Nat} {x:AV} {v:Value} (hg:J1 Γ Γ' g (ZA x)) (hk:ZO I I' w w') (h:Xw Γ w I x v):Xw Γ' w' I' (Zel g x) v:=by
 by_cases hs:x.small=true
 ·rw[(Yq hs g []).2.2.2.2.2] at hg;rw[(Wi hs v).2.2] at h;rw[(Yq hs g []).2.1];exact(Zke hg hk h).repB
 ·cases x with
  | clo f cs=>obtain⟨us,h1,h2⟩:=h;exact⟨us,h1,Zkf hg hk h2⟩
  | agg cs=>exact h.elim
  | tup cs=>exact h.elim
  | d x=>exact⟨h.1,h.2.mono hk⟩
  | _=>exact absurd rfl hs
theorem Zo5 {g:Nat→Nat} {x:AV} {v:Value} (hg:J1 Γ Γ' g (ZA x)) (hk:ZO I I' w w') (h:UD Γ w I x v):UD Γ' w' I' (Zel g x) v:=by
 by_cases hs:x.small=true
 ·rw[(Yq hs g []).2.2.2.2.2] at hg;rw[(Wi hs v).2.1] at h;rw[(Yq hs g []).2.1];exact(Zke hg hk h).rep2
 ·cases x with
  | clo f cs=>obtain⟨us,h1,h2⟩:=h;exact⟨us,h1,Zkf hg hk h2⟩
  | agg cs=>obtain⟨us,h1,h2⟩:=h;exact⟨us,h1,Zkf hg hk h2⟩
  | tup cs=>exact h.elim
  | d x=>exact ZpH.2 ((ZpH.1 h).mono hk)
  | _=>exact absurd rfl hs
theorem Zsn {g:Nat→Nat}:∀ {xs:List AV} {vs:List Value},J1 Γ Γ' g (xs.flatMap ZA)→ZO I I' w w'→Zy (UD Γ w I) xs vs→Zy (UD Γ' w' I') (xs.map (Zel g)) vs
 | [],[],_,_,_=>trivial
 | [],_ :: _,_,_,h=>h.elim
 | _ :: _,[],_,_,h=>h.elim
 | x :: xs,v :: vs,hg,hk,h=>⟨Zo5 (fun id aa=>hg id (by simp only[KQ,Kh];exact .inl aa)) hk h.1,Zsn (fun id aa=>hg id (by simp only[KQ,Kh];exact .inr aa)) hk h.2⟩
theorem Zec {g:Nat→Nat}:∀ {xs:List AV} {vs:List Value},J1 Γ Γ' g (xs.flatMap ZA)→ZO I I' w w'→Zy (Xw Γ w I) xs vs→Zy (Xw Γ' w' I') (xs.map (Zel g)) vs
 | [],[],_,_,_=>trivial
 | [],_ :: _,_,_,h=>h.elim
 | _ :: _,[],_,_,h=>h.elim
 | x :: xs,v :: vs,hg,hk,h=>⟨ZAG (fun id aa=>hg id (by simp only[KQ,Kh];exact .inl aa)) hk h.1,Zec (fun id aa=>hg id (by simp only[KQ,Kh];exact .inr aa)) hk h.2⟩
theorem ZoP {g:Nat→Nat} {x:AV} {v:Value} (hg:J1 Γ Γ' g (Zx x)) (hk:ZO I I' w w') (h:Rep Γ w I x v):Rep Γ' w' I' (ren g x) v:=by
 by_cases hs:x.small=true
 ·rw[(Yq hs g []).2.2.2.2.1] at hg;rw[(Wi hs v).1] at h;rw[(Yq hs g []).1];exact(Zke hg hk h).rep2.rep
 ·cases x with
  | tup vs=>obtain⟨us,h1,h2⟩:=h;exact⟨us,h1,Zsn hg hk h2⟩
  | clo f cs=>exact Zo5 (g:=g) (x:=.clo f cs) hg hk h
  | agg cs=>exact Zo5 (g:=g) (x:=.agg cs) hg hk h
  | d x=>exact Qi.2 ((Qi.1 h).mono hk)
  | _=>exact absurd rfl hs
theorem Zh1 {bad:List Nat} {x:AV} {v:Value} (h:Yw Γ w I x v):Yw Γ w I (Qb bad x) v:=by
 cases x<;>simp only[Qb]<;>first | exact h | (split<;>first | exact trivial | exact h)
theorem Zl3 {bad:List Nat} {xs:List AV} {vs:List Value} (h:Zy (Yw Γ w I) xs vs):Zy (Yw Γ w I) (xs.map (Qb bad)) vs:=h.map_left fun _ _ h=>Zh1 h
theorem Zl4 {bad:List Nat} {x:AV} {v:Value} (h:Xw Γ w I x v):Xw Γ w I (ZS bad x) v:=by
 by_cases hs:x.small=true
 ·rw[(Wi hs v).2.2] at h;rw[(Yq hs id bad).2.2.2.1];exact(Zh1 h).repB
 ·cases x with
  | clo f cs=>obtain⟨us,h1,h2⟩:=h;exact⟨us,h1,Zl3 h2⟩
  | agg cs=>exact h.elim
  | tup cs=>exact h.elim
  | d x=>exact h
  | _=>exact absurd rfl hs
theorem Zl5 {bad:List Nat} {x:AV} {v:Value} (h:UD Γ w I x v):UD Γ w I (ZS bad x) v:=by
 by_cases hs:x.small=true
 ·rw[(Wi hs v).2.1] at h;rw[(Yq hs id bad).2.2.2.1];exact(Zh1 h).rep2
 ·cases x with
  | clo f cs=>obtain⟨us,h1,h2⟩:=h;exact⟨us,h1,Zl3 h2⟩
  | agg cs=>obtain⟨us,h1,h2⟩:=h;exact⟨us,h1,Zl3 h2⟩
  | tup cs=>exact h.elim
  | d x=>exact h
  | _=>exact absurd rfl hs
theorem Zu3 {bad:List Nat} {x:AV} {v:Value} (h:Rep Γ w I x v):Rep Γ w I (kill bad x) v:=by
 by_cases hs:x.small=true
 ·rw[(Wi hs v).1] at h;rw[(Yq hs id bad).2.2.1];exact(Zh1 h).rep2.rep
 ·cases x with
  | tup vs=>obtain⟨us,h1,h2⟩:=h;exact⟨us,h1,h2.map_left fun _ _ h=>Zl5 h⟩
  | clo f cs=>exact(Zl5 (bad:=bad) (x:=.clo f cs) h).rep
  | agg cs=>exact(Zl5 (bad:=bad) (x:=.agg cs) h).rep
  | d x=>exact h
  | _=>exact absurd rfl hs
theorem Zjt (bad:List Nat) (x:AV):∀ id∈Zn (Qb bad x),id∈Zn x∧id∉bad:=by
 intro id aa;cases x<;>simp only[Qb] at aa<;>first
  | (simp[Zn] at aa;done)
  | (split at aa
     ·simp [Zn] at aa
     ·rename_i hb;simp[Zn] at aa hb ⊢;first | (subst aa;simpa using hb) | (rcases aa with rfl | rfl<;>simp[hb]))
theorem ZeH (bad:List Nat) (xs:List AV):∀ id∈(xs.map (Qb bad)).flatMap Zn,id∈xs.flatMap Zn∧id∉bad:=by
 intro id aa;obtain⟨y,hy,aa⟩:=Kz.1 aa;obtain⟨x,hx,rfl⟩:=Lk.1 hy;obtain⟨h1,h2⟩:=Zjt bad x id aa;exact⟨Kz.2 ⟨x,hx,h1⟩,h2⟩
theorem Zju (bad:List Nat) (x:AV):∀ id∈ZA (ZS bad x),id∈ZA x∧id∉bad:=by
 intro id aa;by_cases hs:x.small=true
 ·rw[(Yq hs (fun k=>k) bad).2.2.2.1] at aa;have ab : ZA (Qb bad x)=Zn (Qb bad x):=by
   cases x<;>simp only[Qb]<;>first | rfl | (split<;>rfl) | (cases hs)
  rw[ab] at aa;rw[(Yq hs (fun k=>k) bad).2.2.2.2.2];exact Zjt bad x id aa
 ·cases x with
  | agg cs=>exact ZeH bad cs id aa
  | clo f cs=>exact ZeH bad cs id aa
  | tup cs=>simp[ZS,Qb,ZA,Zn] at aa
  | d x=>simp[ZS,Qb,ZA,Zn] at aa
  | _=>exact absurd rfl hs
theorem Zso (bad:List Nat) (x:AV):∀ id∈Zx (kill bad x),id∈Zx x∧id∉bad:=by
 intro id aa;by_cases hs:x.small=true
 ·rw[(Yq hs (fun k=>k) bad).2.2.1] at aa;have ab : Zx (Qb bad x)=Zn (Qb bad x):=by
   cases x<;>simp only[Qb]<;>first | rfl | (split<;>rfl) | (cases hs)
  rw[ab] at aa;rw[(Yq hs (fun k=>k) bad).2.2.2.2.1];exact Zjt bad x id aa
 ·cases x with
  | tup vs=>
   obtain⟨y,hy,aa⟩:=Kz.1 aa;obtain⟨x,hx,rfl⟩:=Lk.1 hy;obtain⟨h1,h2⟩:=Zju bad x id aa;exact⟨Kz.2 ⟨x,hx,h1⟩,h2⟩
  | agg cs=>exact ZeH bad cs id aa
  | clo f cs=>exact ZeH bad cs id aa
  | d x=>simp[kill,ZS,Qb,Zx,ZA,Zn] at aa
  | _=>exact absurd rfl hs
end
theorem UA (hp:Hp):∀ (n:Nat) (todo aa:List Nat),aa.Nodup→(Q6 hp n todo aa).Nodup∧(∀ id∈aa,id∈Q6 hp n todo aa)∧(∀ id∈Q6 hp n todo aa,id∈aa∨∃ o,lkp hp id=some o)
 | 0,todo,aa,h=>by simp only[Q6];exact⟨h,fun _ h=>h,fun _ h=>.inl h⟩
 | n+1,[],aa,h=>by simp only[Q6];exact⟨h,fun _ h=>h,fun _ h=>.inl h⟩
 | n+1,id :: todo,aa,h=>by
  simp only[Q6];split
  ·exact UA hp n todo aa h
  ·rename_i hc;cases hl:lkp hp id with
   | none=>simp only[UP];exact UA hp n todo aa h
   | some o=>
    simp only[UP];have ab:(aa++[id]).Nodup:=by
     rw[LQ];refine⟨h,by simp,?_⟩;intro a ha b hb;simp at hb;subst hb;intro e;subst e;simp at hc;exact hc ha
    obtain⟨h1,h2,h3⟩:=UA hp n (todo++UI o) (aa++[id]) ab;refine⟨h1,fun x hx=>h2 x (by simp[hx]),fun x hx=>?_⟩;rcases h3 x hx with h4 | h4
    ·simp at h4;rcases h4 with h4 | rfl
     ·exact .inl h4
     ·exact .inr ⟨o,hl⟩
    ·exact .inr h4
theorem Zkg:∀ {ids:List Nat} {id:Nat},id∈ids→VI ids id<ids.length∧ids[VI ids id]?=some id
 | [],_,h=>by simp at h
 | x :: r,id,h=>by
  simp only[VI];split
  ·rename_i e;subst e;simp
  ·rename_i e;rcases Kd.1 h with h | h
   ·exact absurd h.symm e
   ·obtain⟨h1,h2⟩:=Zkg h;exact⟨by simp;omega,by simpa using h2⟩
theorem Zh2:∀ {ids:List Nat},ids.Nodup→∀ {k id:Nat},ids[k]?=some id→VI ids id=k
 | [],_,k,id,h=>by simp at h
 | x :: r,hn,k,id,h=>by
  rw[Lj] at hn;cases k with
  | zero=>simp at h;subst h;simp[VI]
  | succ k=>
   simp at h;have aa:x≠id:=fun e=>hn.1 (e ▸ Kb h);simp only[VI,Ke aa,Zh2 hn.2 h]
def Zze {α:Type} (b:Option α):Option α→Option α
 | some v=>some v
 | none=>b
theorem Zkh {α:Type}:∀ (l:List (Nat×α)) (k:Nat) (v:α) (t:Nat),lkp (l++[(k,v)]) t=Zze (if k=t then some v else none) (lkp l t)
 | [],k,v,t=>by simp[lkp,Zze]
 | (j,x) :: l,k,v,t=>by
  by_cases h:j=t
  ·simp[lkp,h,Zze]
  ·simp[lkp,h,Zkh l k v t]
theorem WG:∀ (l:List Zk) (k i:Nat),lkp (VR k l) i=if k≤i then l[i-k]? else none
 | [],k,i=>by simp[VR,lkp]
 | o :: r,k,i=>by
  simp only[VR,Zkh,WG r];by_cases h1:k=i
  ·subst h1;simp[Zze,Nat.not_succ_le_self]
  ·by_cases h2:k≤i
   ·rw[Ke h1,Kj o_,Kj h2];have:i-k=(i-(k+1))+1:=o_
    rw[this];simp;cases r[i-(k+1)]? <;> rfl
   ·rw[Ke h1,Ke o_,Ke h2];rfl
theorem Zo6 (hp:Hp):∀ (ids:List Nat) (k:Nat),(Zdr hp ids)[k]?=(ids[k]?).map fun id=>ZvI (lkp hp id)
 | [],k=>by simp[Zdr]
 | id :: r,0=>by simp[Zdr]
 | id :: r,k+1=>by simp[Zdr,Zo6 hp r k]
end Go.Abs
namespace Go.Abs
open Go
structure Pre (F A I:Nat→Prop) (Γ:Gh) (h:List Zk) (as1:List AV) (args:List Value) (w:World):Prop where
 args:Zy (Rep Γ w I) as1 args
 objs:JF Γ w I F A (VR 0 h)
 inj:∀ i j o o' b,lkp (VR 0 h) i=some o→lkp (VR 0 h) j=some o'→Blk Γ w i o b→Blk Γ w j o' b→i=j
 bound:∀ b,I b→b<w.heap.size
 fresh:∀ b,w.heap.size≤b→F b
 own:∀ b,F b→A b
 names:∀ id,h.length≤id→Γ id=none
 glob:ZjF I w
structure Zzf (F A I:Nat→Prop) (Γ:Gh) (w:World) (hs:List Zk) (res:AV) (I' : Nat→Prop) (Γ' : Gh) (v:Value) (w' : World):Prop where
 heads:Qa Γ Γ'
 keeps:ZO I I' w w'
 sub:∀ b,I' b→I b∨F b
 fr:Fr F w w'
 res:Rep Γ' w' I' res v
 objs:JF Γ' w' I' F A (VR 0 hs)
 inj:∀ i j o o' b,lkp (VR 0 hs) i=some o→lkp (VR 0 hs) j=some o'→Blk Γ' w' i o b→Blk Γ' w' j o' b→i=j
 bound:∀ b,I' b→b<w'.heap.size
 names:∀ id,hs.length≤id→Γ' id=none
def Zgu (P:Program) (f:FuncId):Prop:=∃ fn,P.funcs[f]?=some fn∧(fn.name == "runtime.NumGoroutine")=false∧fn.body.isNone=false
def Zo7 (P:Program) (f:FuncId) (as1:List AV) (h:List Zk) (res:AV) (hs:List Zk):Prop:=
 Zgu P f∧∀ (F A I:Nat→Prop) (Γ:Gh) (args:List Value) (w:World),Pre F A I Γ h as1 args w→Calls P f args.toArray w fun e w'=>∃ v I' Γ',e=.returned v∧Zzf F A I Γ w hs res I' Γ' v w'
def QJ (P:Program) (C:Orc):Prop:=∀ f as1 h res hs,C f as1 h=some (res,hs)→Zo7 P f as1 h res hs
section
variable {P:Program} {nt:Nat} {U:Nat→Prop} {F A I:Nat→Prop} {Γ:Gh} {sl:Sl} {hp:Hp} {a:Act} {w:World}
def Zu4 (P:Program) (nt:Nat) (F A I:Nat→Prop) (Γ:Gh) (U:Nat→Prop) (sl:Sl) (hp:Hp) (a:Act) (w:World) (o:Oper) (base:Nat) (ce:Ze):Prop:=
 ∀ (K:Act→World→Prop) (Q:Exit→Act→World→Prop),(∀ u w',Vi nt F A I Γ w (UE U base) (ce.on o.dst sl hp).1 (ce.on o.dst sl hp).2 (a.put o.dst u) w'→K (a.put o.dst u) w')→o.wp P a w K Q
theorem Zdz.opWp {o:Oper} {base:Nat} {ce:Ze} (h:Zdz P nt F A I Γ U sl hp a w o base ce):Zu4 P nt F A I Γ U sl hp a w o base ce:=by
 intro K Q hK;obtain⟨u,w',h1,h2⟩:=h;exact h1.wp (hK u w' h2)
def ZrK (Γ:Gh) (w:World) (hp:Hp) (I' : Nat→Prop) (ids:List Nat):Prop:=∀ id∈ids,∀ o b,lkp hp id=some o→ZgM (some o)=true→Blk Γ w id o b→I' b
theorem ZrK.sub {I' : Nat→Prop} {ids aa : List Nat} (h:ZrK Γ w hp I' ids) (hs:∀ id∈aa,id∈ids):ZrK Γ w hp I' aa:=fun id ab=>h id (hs id ab)
theorem ZwT (h:JF Γ w I F A hp) (ids:List Nat):ZrK Γ w hp (Zg2 Γ w hp I ids) ids:=by
 intro id aa o b hl hr hb;cases o with
 | box cs=>cases hr
 | gone=>exact hb.isGone.elim
 | tree sz ns xs lk=>exact .inr ⟨id,aa,_,hl,rfl,hb⟩
 | row sz xs ex fz=>
  cases fz with
  | false=>exact .inr ⟨id,aa,_,hl,rfl,hb⟩
  | true=>
   have hb:=hb.row;obtain⟨ad,n,c,h1,h2,h3⟩:=h id _ hl;rw[h1] at hb;obtain⟨ae,rfl,rfl,hc⟩:=Zs3 hb;rcases h3 with h3 | ⟨g,q0,cur,e,hg,h4,h5,h6,h7,h8,h9,ab,af⟩
   ·exact absurd h3.2 hc
   ·cases hg;exact .inl (by simpa using ab)
theorem Zu5 (h:JF Γ w I F A hp) {I' : Nat→Prop} (hI:∀ b,I b→I' b) {id:Nat} (aa:ZrK Γ w hp I' [id]) {xs:List D} (he:UH (lkp hp id)=some xs) :
  ∃ ad n c sz,Γ id=some (.row ad n c sz)∧n=xs.length∧n≤c∧((n=0∧c=0)∨∃ g q,ad=some ⟨g,q,none⟩∧I' g∧0<sz∧Wj w I' g sz xs q):=by
 unfold UH at he;split at he
 ·rename_i sz af ex fz hl;cases he;obtain⟨ad,n,c,h1,h2,h3⟩:=h id _ hl;refine⟨ad,n,c,sz,h1,h2,?_⟩;rcases h3 with h3 | ⟨g,q0,cur,e,rfl,hc,hw,h4,h5,h6,h7,h8,hF,h9⟩
  ·exact⟨o_,.inl h3⟩
  ·refine⟨h4,.inr ⟨g,q0,rfl,aa id (by simp) _ g hl rfl (.inl (by rw[h1];simp[Zz,KE hc])),h7,?_⟩⟩;cases ex
   ·exact h9.mono' (JP hI) rfl
   ·exact h9.mono' ⟨fun b hb=>hI b hb.1,fun _ _=>rfl⟩ rfl
 ·rename_i sz ns af hl;cases he;obtain⟨ad,n,c,h1,⟨h2,h3⟩,_⟩:=h id _ hl;refine⟨ad,n,c,sz,h1,h2,?_⟩;rcases h3 with h3 | ⟨g,cur,e,B,rfl,hc,hw,h4,h5,h6,ab,h8,h9,ag⟩
  ·exact⟨o_,.inl ⟨h3.1,h3.2.1⟩⟩
  ·have ae:Zz (Γ id)=some g:=by rw[h1];simp[Zz,KE hc]
   exact⟨h4,.inr ⟨g,0,rfl,aa id (by simp) _ g hl rfl (.inl ae),ab,h8.rep fun b hb=>aa id (by simp) _ b hl rfl (.inr (.inl ⟨g,B,ae,h8,hb⟩))⟩⟩
 ·cases he
theorem ZtX (h:JF Γ w I F A hp) {I' : Nat→Prop} (hI:∀ b,I b→I' b) {x:AV} {v:Value} (hx:Rep Γ w I x v) (aa:ZrK Γ w hp I' (ZcV x)) {d:D} (hd:ZiF hp x=some d):Xo w I' d v:=by
 unfold ZiF at hd;split at hd
 ·cases hd;exact(Qi.1 hx).mono (JP hI)
 ·cases hd;obtain⟨ad,rfl⟩:=hx;exact⟨ad,0,rfl,by simp,.inl rfl⟩
 ·rename_i id;obtain⟨xs,h1,hd⟩:=Za hd;cases hd;obtain⟨ad,n,c,sz,h2,h3,h4,h5⟩:=Zu5 h hI aa h1;obtain⟨aj,n',c',af,h6,rfl⟩:=hx;rw[h2] at h6;cases h6;refine⟨ad,c,by rw[h3],o_,?_⟩;rcases h5 with h5 | ⟨g,q,rfl,h7,h8,h9⟩
  ·exact .inl (Ks o_)
  ·exact .inr ⟨g,q,sz,rfl,h7,h8,h9⟩
 ·rename_i id off n;obtain⟨xs,h1,hd⟩:=Za hd;cases hd;obtain⟨ad,m,c,sz,h2,h3,h4,h5⟩:=Zu5 h hI aa h1;obtain⟨a0,m',c',af,av,h6,h7,h8,rfl,h9,ab⟩:=hx;rw[h2] at h6;cases h6;have ae:n=((xs.drop off).take n).length:=by simp;omega
  refine⟨av,c-off,by rw[← ae],o_,?_⟩;by_cases hn:n=0
  ·exact .inl (Ks o_)
  ·rcases h5 with h5 | ⟨g,q,rfl,ag,ah,ai⟩
   ·omega
   ·rcases ab with ab | ab
    ·subst ab;exact .inr ⟨g,q+off*sz,sz,by simp[VX],ag,ah,Zg1 ai off n⟩
    ·omega
 ·cases hd
theorem Zyo (h:JF Γ w I F A hp) {I' : Nat→Prop} (hI:∀ b,I b→I' b):∀ {xs:List AV} {vs:List Value} {ds:List D},Zy (Yw Γ w I) xs vs→ZrK Γ w hp I' (xs.flatMap ZcV)→QF (ZiF hp) xs=some ds→Ju D.one ds=true→Q4 w I' ds vs
 | [],[],ds,_,_,hd,_=>by simp only[QF] at hd;cases hd;simp[Q4]
 | [],_ :: _,_,h,_,_,_=>h.elim
 | _ :: _,[],_,h,_,_,_=>h.elim
 | x :: xs,v :: vs,ds,hr,hl,hd,h1=>by
  simp only[QF] at hd;obtain⟨d,h2,hd⟩:=Za hd;obtain⟨ab,h3,hd⟩:=Za hd;cases hd;simp only[Ju,Kf] at h1;refine⟨v,vs,rfl,h1.1,(Xo.one h1.1).1 (ZtX h hI hr.1.rep2.rep (hl.sub fun id aa=>by simp only[KQ,Kh];exact .inl aa) h2),Zyo h hI hr.2 (hl.sub fun id aa=>by simp only[KQ,Kh];exact .inr aa) h3 h1.2⟩
theorem ZwU (h:JF Γ w I F A hp) {I' : Nat→Prop} (hI:∀ b,I b→I' b) {x:AV} {v:Value} (hx:Rep Γ w I x v) (aa:ZrK Γ w hp I' (ZeQ x)) {d:D} (hd:toD hp x=some d):Xo w I' d v:=by
 unfold toD at hd;split at hd
 ·rename_i cs;obtain⟨ds,h1,hd⟩:=Za hd;split at hd
  ·rename_i h2;cases hd;obtain⟨vs,rfl,h3⟩:=hx;exact⟨vs,rfl,Zyo h hI h3 aa h1 h2⟩
  ·cases hd
 ·rename_i ab;refine ZtX h hI hx ?_ hd;cases x<;>first | exact aa | (exact absurd rfl (ab _))
def Zyp (x y:AV):List Nat:=match y with
 | .d _=>ZeQ x
 | _=>[]
theorem ZCh (h:JF Γ w I F A hp) {I' : Nat→Prop} (hI:∀ b,I b→I' b) {m:Bool} {x y:AV} {v:Value} (hx:Rep Γ w I x v) (ha:ZcN hp m x=some y) (aa:ZrK Γ w hp I' (Zyp x y)):Rep Γ w I' y v:=by
 have keep:Rep Γ w I' x v:=hx.mono (Qa.refl Γ) (JP hI);unfold ZcN at ha;split at ha
 ·cases ha;exact keep
 ·cases ha;exact keep
 ·cases ha;exact keep
 ·cases ha;exact keep
 ·cases ha;exact keep
 ·rename_i id;cases m
  ·simp only[ZeT,asD] at ha;obtain⟨d,h1,ha⟩:=Za ha;cases ha;exact Qi.2 (ZtX h hI hx aa h1)
  ·simp only[ZeT] at ha;cases ha;exact keep
 ·cases m
  ·simp only[ZgL] at ha;cases ha;exact Qi.2 (ZwU h hI hx aa rfl)
  ·simp only[ZgL] at ha;cases ha;exact keep
 ·cases ha;exact keep
 ·cases m
  ·simp only[ZeU,asD] at ha;obtain⟨d,h1,ha⟩:=Za ha;cases ha;exact Qi.2 (ZwU h hI hx aa h1)
  ·simp only[ZeU] at ha;split at ha
   ·cases ha
   ·cases ha;exact keep
 ·obtain⟨d,h1,ha⟩:=Za ha;cases ha;exact Qi.2 (ZwU h hI hx aa h1)
theorem Znf (x y:AV) (xs ys:List AV):Yx (x :: xs) (y :: ys)=Zyp x y++Yx xs ys:=by
 cases y<;>simp[Yx,Zyp]
theorem Zyq (h:JF Γ w I F A hp) {I' : Nat→Prop} (hI:∀ b,I b→I' b) (m:Nat→Bool):∀ {xs ys:List AV} {vs:List Value} (i:Nat),Zy (Rep Γ w I) xs vs→args hp m i xs=some ys→ZrK Γ w hp I' (Yx xs ys)→Zy (Rep Γ w I') ys vs
 | [],ys,[],i,_,ha,_=>by simp only[args] at ha;cases ha;exact trivial
 | [],_,_ :: _,_,h,_,_=>h.elim
 | _ :: _,_,[],_,h,_,_=>h.elim
 | x :: xs,ys,v :: vs,i,hr,ha,hl=>by
  simp only[args] at ha;obtain⟨y,h1,ha⟩:=Za ha;obtain⟨ab,h2,ha⟩:=Za ha;cases ha;rw[Znf] at hl;exact⟨ZCh h hI hr.1 h1 (hl.sub fun id aa=>by simp[aa]),Zyq h hI m (i+1) hr.2 h2 (hl.sub fun id aa=>by simp[aa])⟩
def Zgv (ids:List Nat) (Γ:Gh):Gh:=fun k=>match ids[k]? with
 | some id=>Γ id
 | none=>none
theorem Y3 {ids:List Nat} {k id:Nat} (h:ids[k]?=some id):Zgv ids Γ k=Γ id:=by simp[Zgv,h]
theorem Zgw {ids l:List Nat} (h:∀ id∈l,id∈ids):J1 Γ (Zgv ids Γ) (VI ids) l:=by
 intro id aa r hr;rw[Y3 (Zkg (h id aa)).2];exact hr
theorem Zng {S S' : Nat→Prop} {b sz:Nat} {ys:List D} (hf:Ju D.flat ys=true) {o:Nat} (h:Wj w S b sz ys o):Wj w S' b sz ys o:=by
 rw[X3] at h ⊢;intro i x hx;obtain⟨vs,h1,h2,h3⟩:=h i x hx;refine⟨vs,h1,h2,?_⟩;have aa : x.flat=true:=by
  clear h h1 h2 h3
  induction ys generalizing i with
  | nil=>simp at hx
  | cons y ys ih=>
   simp only[Ju,Kf] at hf;cases i with
   | zero=>simp at hx;subst hx;exact hf.1
   | succ i=>simp at hx;exact ih hf.2 i hx
 have one:∀ {y:D} {v:Value},y.plain=true→ZP w S y [v]→ZP w S' y [v]:=by
  intro y v hy hv;cases y<;>first | (simpa [ZP] using hv) | (simp[D.plain] at hy)
 have all:∀ (ds:List D) (us:List Value),Ju D.plain ds=true→Q4 w S ds us→Q4 w S' ds us:=by
  intro ds
  induction ds with
  | nil=>intro us _ h;simpa [Q4] using h
  | cons d ds ih=>
   intro us hp h;simp only[Ju,Kf] at hp;obtain⟨v,r,h1,h2,h3,h4⟩:=h;exact⟨v,r,h1,h2,one hp.1 h3,ih r hp.2 h4⟩
 have:=all x.cells vs aa h3.cells;exact ZrT (Xm.1 this)
theorem Zkt.give {I' F' A' : Nat→Prop} {ad:Option Addr} {n c sz:Nat} {ys:List D} (h:Zkt w I F A ad n c sz ys true false) (hf:Ju D.flat ys=true)
  (hb:∀ b,Zz (some (.row ad n c sz))=some b→F b→F' b∧(I' b→I b)):Zkt w I' F' A' ad n c sz ys true false:=by
 obtain⟨h2,h3⟩:=h;refine⟨h2,?_⟩;rcases h3 with h3 | ⟨g,q0,cur,e,rfl,hc,hw,h4,h5,h6,h7,h8,aa,h9⟩
 ·exact .inl h3
 ·obtain⟨ab,ae⟩:=hb g (by simp[Zz,KE hc]) aa;exact .inr ⟨g,q0,cur,e,rfl,hc,hw,h4,h5,h6,h7,by simp at h8 ⊢;exact fun hi=>h8 (ae hi),ab,Zng hf h9⟩
theorem Zu6 {ids:List Nat} {id k:Nat} (hk:ids[k]?=some id) {o:Zk} (ho:YF Γ w I F A id o) {I' F' A' : Nat→Prop} (hI:∀ b,I b→I' b) (hF:∀ b,Blk Γ w id o b→F' b) (hA:∀ b,I b→A b→A' b)
  (hn:∀ b,Blk Γ w id o b→I' b→I b):YF (Zgv ids Γ) w I' F' A' k (Zal ids o):=by
 cases o with
 | gone=>
  obtain⟨r,hr⟩:=ho;exact⟨r,by rw[Y3 hk,hr]⟩
 | tree sz ns xs lk=>
  obtain⟨ad,n,c,h1,h2,h3⟩:=ho;refine⟨ad,n,c,by rw[Y3 hk,h1],?_,Yj.lose (Yj.kill (Γ':=Γ) h3 (fun _ _ _ h=>h) fun _ _=>rfl)⟩;rw[Uv,Uw];refine h2.mono fun b hb=>?_;rw[← h1] at hb;have ab : Blk Γ w id (.tree sz ns xs lk) b:=hb.elim .inl fun h=>.inr (.inl h);exact⟨rfl,hn b ab,fun _=>hF b ab⟩
 | box cs=>
  obtain⟨b,cur,e,h1,h2,h3,h4,h5,af⟩:=ho;have hb:Blk Γ w id (.box cs) b:=.inl (by rw[h1];rfl);refine⟨b,cur,e,by rw[Y3 hk,h1],h2,fun hi=>h3 (hn b hb hi),hF b hb,?_,((af.mono fun x te l u v g hc hv hg=>have hB:=Or.inr (Or.inr (ZxJ h1 h2 hc hv hg));⟨rfl,hn g hB,fun _=>hF g hB⟩).map (Uh _)).map (Zbo _)⟩;have h6:Zy (Xw Γ w I) (cs.map (ZS ((UI (.box cs)).filter fun i=>!ids.contains i))) cur.toList:=h5.map_left fun _ _ h=>Zl4 h;refine Zec (Zgw fun ae aa=>?_) (JP hI) h6;obtain⟨y,hy,aa⟩:=Kz.1 aa;obtain⟨x,hx,rfl⟩:=Lk.1 hy;obtain⟨h7,h8⟩:=Zju _ x ae aa;have h9:ae∈UI (.box cs):=Kz.2 ⟨x,hx,h7⟩
  simp only[LS,K0,KX,Li,not_and,Decidable.not_not] at h8;exact h8 h9
 | row sz xs ex fz=>
  obtain⟨ad,n,c,h1,h2,h3⟩:=ho;refine⟨ad,n,c,by rw[Y3 hk,h1],h2,?_⟩;rcases h3 with h3 | ⟨g,q0,cur,e,rfl,hc,hw,h4,h5,h6,h7,h8,ag,h9⟩
  ·exact .inl h3
  ·have hb:Blk Γ w id (.row sz xs ex fz) g:=.inl (by rw[h1];simp[Zz,KE hc]);refine .inr ⟨g,q0,cur,e,rfl,hc,hw,h4,h5,h6,h7,?_,hF g hb,?_⟩
   ·cases fz
    ·simp at h8 ⊢;exact fun hi=>h8 (hn g hb hi)
    ·simp at h8 ⊢;exact hI g h8
   ·cases ex
    ·exact h9.mono' (JP hI) rfl
    ·simp only[Kl] at h9 ⊢;exact h9.mono' ⟨fun b hb=>⟨hI b hb.1,hA b hb.1 hb.2⟩,fun _ _=>rfl⟩ rfl
end
end Go.Abs
namespace Go.Abs
open Go
theorem Znh : ∀ (l:Hp) (hp:Hp) (id:Nat) (o:Zk),lkp (Zi hp l) id=some o→(id,o)∈l∨((∀ o',(id,o')∉l)∧lkp hp id=some o)
 | [],hp,id,o,h=>.inr ⟨by simp,h⟩
 | (k,x) :: r,hp,id,o,h=>by
  rcases Znh r (ins hp k x) id o h with h1 | ⟨h1,h2⟩
  ·exact .inl (Kv _ h1)
  ·rw[Qg] at h2;split at h2
   ·rename_i hk;subst hk;cases h2;exact .inl (Lh ..)
   ·rename_i hk;refine .inr ⟨fun o' hm=>?_,h2⟩;rcases Kd.1 hm with hm | hm
    ·cases hm;exact hk rfl
    ·exact h1 o' hm
theorem Zjv (g:Nat→Nat):∀ (ids:List Nat) (out:List Zk) (id:Nat) (o:Zk),(id,o)∈ZbK g ids out→∃ (k:Nat) (o0:Zk),ids[k]?=some id∧out[k]?=some o0∧o=Zkx g o0
 | [],out,id,o,h=>by simp[ZbK] at h
 | i :: ids,[],id,o,h=>by simp[ZbK] at h
 | i :: ids,o1 :: out,id,o,h=>by
  simp only[ZbK] at h;rcases Kd.1 h with h | h
  ·cases h;exact⟨0,o1,by simp,by simp,rfl⟩
  ·obtain⟨k,o0,h1,h2,h3⟩:=Zjv g ids out id o h;exact⟨k+1,o0,by simpa using h1,by simpa using h2,h3⟩
theorem Zo8 (g:Nat→Nat):∀ (ids:List Nat) (out:List Zk) (id:Nat),ids.length≤out.length→id∈ids→∃ o,(id,o)∈ZbK g ids out
 | [],out,id,_,h=>by simp at h
 | i :: ids,[],id,hl,h=>by simp at hl
 | i :: ids,o1 :: out,id,hl,h=>by
  simp only[ZbK];rcases Kd.1 h with h | h
  ·subst h;exact⟨_,Lh ..⟩
  ·obtain⟨o,ho⟩:=Zo8 g ids out id (by simpa using hl) h;exact⟨o,Kv _ ho⟩
theorem Zo9 (g:Nat→Nat):∀ (out:List Zk) (k id:Nat) (o:Zk),(id,o)∈ZbL g k out→∃ (j:Nat) (o0:Zk),out[j]?=some o0∧id=k+j∧o=Zkx g o0
 | [],k,id,o,h=>by simp[ZbL] at h
 | o1 :: out,k,id,o,h=>by
  simp only[ZbL] at h;rcases Kd.1 h with h | h
  ·cases h;exact⟨0,o1,by simp,rfl,rfl⟩
  ·obtain⟨j,o0,h1,h2,h3⟩:=Zo9 g out (k+1) id o h;exact⟨j+1,o0,by simpa using h1,o_,h3⟩
theorem Zpa (g:Nat→Nat):∀ (out:List Zk) (k j:Nat),j<out.length→∃ o,(k+j,o)∈ZbL g k out
 | [],k,j,h=>by simp at h
 | o1 :: out,k,0,h=>⟨_,by simp only[ZbL];exact Lh ..⟩
 | o1 :: out,k,j+1,h=>by
  obtain⟨o,ho⟩:=Zpa g out (k+1) j (by simpa using h);refine⟨o,?_⟩;simp only[ZbL];have:k+(j+1)=k+1+j:=o_
  rw[this];exact Kv _ ho
theorem ZCi (x:AV):ZeR (fun k=>k) x=x:=by cases x<;>rfl
theorem ZoQ (x:AV):Zel (fun k=>k) x=x:=by
 cases x<;>first | rfl | (simp only[Zel];congr 1;rw[KV (g:=id) (fun a _=>ZCi a),LH])
theorem Zu7 (xs:List AV):xs.map (Zel fun k=>k)=xs:=by
 rw[KV (g:=id) (fun a _=>ZoQ a),LH]
theorem ren_id (x:AV):ren (fun k=>k) x=x:=by
 cases x with
 | tup vs=>simp only[ren];congr 1;rw[KV (g:=id) (fun a _=>ZoQ a),LH]
 | d x=>rfl
 | nil=>rfl
 | nilp=>rfl
 | nili=>rfl
 | ptr a b=>rfl
 | prow a b c d=>rfl
 | pim c=>rfl
 | own a=>rfl
 | ownv a b c=>rfl
 | bnil a b=>rfl
 | bbuf a b=>rfl
 | agg cs=>exact ZoQ (.agg cs)
 | clo f cs=>exact ZoQ (.clo f cs)
 | junk=>rfl
theorem Zbm (x:AV):Qb [] x=x:=by cases x<;>simp[Qb]
theorem Zed (x:AV):ZS [] x=x:=by
 cases x<;>first | (simp only[ZS];congr 1;rw[KV (g:=id) (fun a _=>Zbm a),LH]) | simp[ZS,Qb]
theorem ZAH (x:AV):kill [] x=x:=by
 cases x with
 | tup vs=>simp only[kill];congr 1;rw[KV (g:=id) (fun a _=>Zed a),LH]
 | d x=>rfl
 | nil=>rfl
 | nilp=>rfl
 | nili=>rfl
 | ptr a b=>exact Zbm (.ptr a b)
 | prow a b c d=>exact Zbm (.prow a b c d)
 | pim c=>rfl
 | own a=>exact Zbm (.own a)
 | ownv a b c=>exact Zbm (.ownv a b c)
 | bnil a b=>exact Zbm (.bnil a b)
 | bbuf a b=>rfl
 | agg cs=>exact Zed (.agg cs)
 | clo f cs=>exact Zed (.clo f cs)
 | junk=>rfl
theorem Zzg (o:Zk):Xp [] o=o:=by
 cases o with
 | box cs=>simp only[Xp];congr 1;rw[KV (g:=id) (fun a _=>Zed a),LH]
 | row s x e f=>rfl
 | gone=>rfl
 | tree s n x l=>rcases l with _ | ⟨_ | _,_⟩<;>simp[Xp,VY]
theorem QN (gone:List Nat) (sl:Sl) (t:Nat):gs (Xc gone sl) t=kill gone (gs sl t):=by
 unfold Xc;split
 ·rw[ZAH]
 ·simp only[gs,ZgZ];cases lkp sl t<;>rfl
theorem VS (gone:List Nat) (hp:Hp) (id:Nat):lkp (VL gone hp) id=(lkp hp id).map (Xp gone):=by
 unfold VL;split
 ·cases h:lkp hp id with
  | none=>rfl
  | some o=>simp[Zzg]
 ·exact ZgZ _ _ _
section
variable {P:Program} {nt:Nat} {U:Nat→Prop} {F A I:Nat→Prop} {Γ:Gh} {sl:Sl} {hp:Hp} {a:Act} {w:World}
theorem Zjw {I2:Nat→Prop} {x:AV} {v:Value} (hc:ZbJ x=true) (h:Yw Γ w I x v):Yw Γ w I2 x v:=by
 cases x with
 | d x=>exact⟨h.1,Zqo hc h.2⟩
 | pim cs=>cases hc
 | agg cs=>exact h
 | tup cs=>exact h
 | clo f cs=>exact h
 | _=>exact h
theorem ZcQ {I2:Nat→Prop}:∀ {xs:List AV} {vs:List Value},xs.all ZbJ=true→Zy (Yw Γ w I) xs vs→Zy (Yw Γ w I2) xs vs
 | [],[],_,_=>trivial
 | [],_ :: _,_,h=>h.elim
 | _ :: _,[],_,h=>h.elim
 | x :: xs,v :: vs,hc,h=>by
  simp only[LC,Kf] at hc;exact⟨Zjw hc.1 h.1,ZcQ hc.2 h.2⟩
theorem Zpb {I2:Nat→Prop} {x:AV} {v:Value} (hc:Zds x=true) (h:UD Γ w I x v):UD Γ w I2 x v:=by
 by_cases hs:x.small=true
 ·rw[(Wi hs v).2.1] at h ⊢;refine Zjw ?_ h;cases x<;>first | exact hc | cases hs
 ·cases x with
  | agg cs=>obtain⟨us,h1,h2⟩:=h;exact⟨us,h1,ZcQ hc h2⟩
  | clo f cs=>obtain⟨us,h1,h2⟩:=h;exact⟨us,h1,ZcQ hc h2⟩
  | tup cs=>exact h.elim
  | d x=>exact ZpH.2 (Zs4 hc (ZpH.1 h))
  | _=>exact absurd rfl hs
theorem ZwV {I2:Nat→Prop} {x:AV} {v:Value} (hc:Zds x=true) (h:Xw Γ w I x v):Xw Γ w I2 x v:=by
 by_cases hs:x.small=true
 ·rw[(Wi hs v).2.2] at h ⊢;refine Zjw ?_ h;cases x<;>first | exact hc | cases hs
 ·cases x with
  | agg cs=>exact h.elim
  | clo f cs=>obtain⟨us,h1,h2⟩:=h;exact⟨us,h1,ZcQ hc h2⟩
  | tup cs=>exact h.elim
  | d x=>exact⟨h.1,Zqo hc h.2⟩
  | _=>exact absurd rfl hs
theorem Zni {I2:Nat→Prop}:∀ {xs:List AV} {vs:List Value},xs.all Zds=true→Zy (Xw Γ w I) xs vs→Zy (Xw Γ w I2) xs vs
 | [],[],_,_=>trivial
 | [],_ :: _,_,h=>h.elim
 | _ :: _,[],_,h=>h.elim
 | x :: xs,v :: vs,hc,h=>by
  simp only[LC,Kf] at hc;exact⟨ZwV hc.1 h.1,Zni hc.2 h.2⟩
theorem Znj {I2:Nat→Prop}:∀ {xs:List AV} {vs:List Value},xs.all Zds=true→Zy (UD Γ w I) xs vs→Zy (UD Γ w I2) xs vs
 | [],[],_,_=>trivial
 | [],_ :: _,_,h=>h.elim
 | _ :: _,[],_,h=>h.elim
 | x :: xs,v :: vs,hc,h=>by
  simp only[LC,Kf] at hc;exact⟨Zpb hc.1 h.1,Znj hc.2 h.2⟩
theorem Zzh {I2:Nat→Prop} {x:AV} {v:Value} (hc:ZsR x=true) (h:Rep Γ w I x v):Rep Γ w I2 x v:=by
 by_cases ht:∃ vs,x=.tup vs
 ·obtain⟨vs,rfl⟩:=ht;obtain⟨us,h1,h2⟩:=h;exact⟨us,h1,Znj hc h2⟩
 ·have e:∀ I,Rep Γ w I x v=UD Γ w I x v:=fun I=>by cases x<;>first | rfl | exact absurd ⟨_,rfl⟩ ht
  rw[e] at h ⊢;refine Zpb ?_ h;cases x<;>first | exact hc | exact absurd ⟨_,rfl⟩ ht
theorem Sim.blk_F (h:Sim nt F A I Γ U sl hp a w) {id:Nat} {o:Zk} (hl:lkp hp id=some o) {b:Nat} (hb:Blk Γ w id o b):F b:=ZkU (h.objs id o hl) hb
def Zzi (Γ:Gh) (w:World) (hp:Hp) (ids:List Nat) (n:Nat) (b:Nat):Prop:=n≤b∨∃ id∈ids,∃ o,lkp hp id=some o∧Blk Γ w id o b
def calA (Γ:Gh) (w:World) (hp:Hp) (ids:List Nat) (n:Nat) (I A:Nat→Prop) (b:Nat):Prop:=Zzi Γ w hp ids n b∨(I b∧A b)
def Zgx (Γ Γ' : Gh) (ids:List Nat) (base:Nat):Gh:=fun id=>if id∈ids then Γ' (VI ids id) else if base≤id∧id<base+64 then Γ' (ids.length+(id-base)) else Γ id
theorem Zzj (h:Sim nt F A I Γ U sl hp a w) {base:Nat} (hb:Xa U base) {ids ab:List Nat} (bv:ids.Nodup) (au:∀ id∈ids,∃ o,lkp hp id=some o) (a4:¬ab.any ids.contains=true)
  {r:AV} {out:List Zk} {I' : Nat→Prop} {Γ' : Gh} {v:Value} {w' : World}
  (aa:Zzf (Zzi Γ w hp ids w.heap.size) (calA Γ w hp ids w.heap.size I A) (Zg2 Γ w hp I ab) (Zgv ids Γ) w out r I' Γ' v w')
  {ce:Ze} {keep:Bool} (a3:Zam keep hp base ids ab r out=some ce) (bt:QX base (base+64) ce.eff.adds=true) {dst:Option Nat} (hd:QP nt dst=true) :
  Vi nt F A I Γ w (UE U base) (ce.on dst sl hp).1 (ce.on dst sl hp).2 (a.put dst v) w':=by
 unfold Zam at a3;split at a3
 ·cases a3
 rename_i a5;have a5:ids.length≤out.length:=o_
 split at a3
 ·cases a3
 rename_i aq;cases a3;generalize ar:(ZsR r&&out.all ZgN)=cl at *;generalize ZjH hp ids out keep=gn at *;dsimp only at bt;have a6:∀ id∈ids,¬(base≤id∧id<base+64):=fun id av hh=>by
  obtain⟨o,ho⟩:=au id av;exact hb id hh.1 hh.2 (h.id_in ho)
 have bh:(out.drop ids.length).length≤64:=by
  rcases K7 64 (out.drop ids.length).length with bw | bh
  ·obtain⟨o,ho⟩:=Zpa (VZ ids base) (out.drop ids.length) base 64 bw;have:=(Uu bt _ _ ho).2;omega
  ·exact bh
 have bx : out.length≤ids.length+64:=by simp at bh;omega
 have az:∀ b,Zzi Γ w hp ids w.heap.size b→F b:=by
  rintro b (hb | ⟨id,av,o,ho,ag⟩)
  ·exact h.fresh b hb
  ·exact h.blk_F ho ag
 have bz:∀ b,calA Γ w hp ids w.heap.size I A b→A b:=by
  rintro b (hb | hb)
  ·exact h.own b (az b hb)
  ·exact hb.2
 have a7:∀ b,Zg2 Γ w hp I ab b→¬I b→¬Zzi Γ w hp ids w.heap.size b:=by
  rintro b aw ai (hb | ⟨id,av,o,ho,ag⟩)
  ·rcases aw with aw | ⟨ax,al,o',a0,bc,ap⟩
   ·exact ai aw
   ·have:=h.blk_lt a0 ap;omega
  ·rcases aw with aw | ⟨ax,al,o',a0,bc,ap⟩
   ·exact ai aw
   ·have:=h.inj id ax o _ b ho a0 ag ap;subst this;exact a4 (LM.2 ⟨id,al,by simpa using av⟩)
 let I2:Nat→Prop:=fun b=>I' b∧(cl=true→Zg2 Γ w hp I ab b→I b)
 let Γ2:Gh:=Zgx Γ Γ' ids base
 have bi:∀ b,I b→I2 b:=fun b hb=>⟨aa.keeps.sub b (.inl hb),fun _ _=>hb⟩
 have ah:ZO I I2 w w':=⟨bi,fun b hb=>aa.keeps.blk b (.inl hb)⟩
 have b0:∀ b,I' b→calA Γ w hp ids w.heap.size I A b→I2 b∧A b:=by
  intro b h1 h2;refine⟨⟨h1,fun _ aw=>?_⟩,bz b h2⟩;rcases h2 with h2 | h2
  ·exact Classical.byContradiction fun ai=>a7 b aw ai h2
  ·exact h2.1
 have af:∀ k,k<out.length→Γ2 (VZ ids base k)=Γ' k:=by
  intro k a8;by_cases hk:k<ids.length
  ·have hg:ids[k]?=some ids[k]:=KK hk;have hb:VZ ids base k=ids[k]:=by simp[VZ,hg,ZjG]
   show Zgx Γ Γ' ids base _=_;rw[hb];simp only[Zgx];rw[Kj (List.getElem_mem hk),Zh2 bv hg]
  ·have hg:ids[k]?=none:=KZ o_;have hb:VZ ids base k=base+(k-ids.length):=by simp[VZ,hg,ZjG]
   show Zgx Γ Γ' ids base _=_;rw[hb];simp only[Zgx];rw[Ke (fun hm=>a6 _ hm o_),Kj o_];congr 1
   omega
 have a9:∀ l,J1 Γ' Γ2 (VZ ids base) l:=fun l id _ r hr=>by
  rw[af id ?_]
  ·exact hr
  ·rcases K7 id out.length with h1 | h1
   ·exact h1
   ·rw[aa.names id h1] at hr;cases hr
 have am:Qa Γ Γ2:=by
  intro id r hr;show Zgx Γ Γ' ids base id=_;simp only[Zgx];split
  ·rename_i hm;refine aa.heads _ r ?_;rw[Y3 (Zkg hm).2];exact hr
  ·split
   ·rename_i bj;rw[h.names id (hb id bj.1 bj.2)] at hr;cases hr
   ·exact hr
 have an:∀ id o,id∉ids→lkp hp id=some o→Γ2 id=Γ id:=by
  intro id o hm hl;show Zgx Γ Γ' ids base id=_;simp only[Zgx];rw[Ke hm,Ke (fun hh=>hb id hh.1 hh.2 (h.id_in hl))]
 have bl:∀ (k:Nat) (o:Zk),out[k]?=some o→YF Γ2 w' I2 F A (VZ ids base k) (Zkx (VZ ids base) o):=by
  intro k o ho;have a8:k<out.length:=(Kc.1 ho).1;have h1:=aa.objs k o (by rw[WG];simpa using ho);cases o with
  | gone=>
   obtain⟨r,hr⟩:=h1;exact⟨r,by rw[af k a8];exact hr⟩
  | tree sz ns xs lk=>
   obtain⟨ad,n,c,h2,h3,h4⟩:=h1;refine⟨ad,n,c,by rw[af k a8];exact h2,?_,h4.lose⟩;rw[Uv];exact h3.mono fun b _=>⟨rfl,fun hi=>hi.1,az b⟩
  | box cs=>
   obtain⟨b,cur,e,h2,h3,h4,h5,h6,bm⟩:=h1;refine⟨b,cur,e,by rw[af k a8];exact h2,h3,fun hi=>h4 hi.1,az b h5,?_,(bm.mono fun x te l u v g hc hv hg=>⟨rfl,fun hi=>hi.1,fun hF=>az g hF⟩).map (Zbo _)⟩;have h7:Zy (Xw Γ' w' I2) cs cur.toList:=by
    cases hq:cl with
    | false=>exact h6.mono fun _ _ h=>h.mono (Qa.refl _) ⟨fun b hb=>⟨hb,fun ak=>by rw[hq] at ak;cases ak⟩,fun _ _=>rfl⟩
    | true=>
     rw[hq] at ar;simp only[Kf] at ar;exact Zni (KW.1 ar.2 _ (Kb ho)) h6
   exact Zec (a9 _) (ZO.refl I2 w') h7
  | row sz xs ex fz=>
   obtain⟨ad,n,c,h2,h3,h4⟩:=h1;refine⟨ad,n,c,by rw[af k a8];exact h2,h3,?_⟩;rcases h4 with h4 | ⟨g,q0,cur,e,rfl,hc,hw,h5,h6,h7,h8,h9,bn,a1⟩
   ·exact .inl h4
   ·have a':cl=true→ex=true∧fz=false:=by
     intro hq;rw[hq] at ar;simp only[Kf] at ar;have:=KW.1 ar.2 _ (Kb ho);simpa [ZgN] using this
    refine .inr ⟨g,q0,cur,e,rfl,hc,hw,h5,h6,h7,h8,?_,az g bn,?_⟩
    ·cases fz
     ·simp at h9 ⊢;exact fun hi=>h9 hi.1
     ·simp at h9 ⊢;exact⟨h9,fun hq=>by have:=(a' hq).2;cases this⟩
    ·cases ex
     ·have:cl=false:=by cases hq:cl with
       | false=>rfl
       | true=>have:=(a' hq).1;cases this
      exact a1.mono' ⟨fun b hb=>⟨hb,fun ak=>by rw[this] at ak;cases ak⟩,fun _ _=>rfl⟩ rfl
     ·simp only[Kl] at a1 ⊢;exact a1.mono' ⟨fun b hb=>b0 b hb.1 hb.2,fun _ _=>rfl⟩ rfl
 have bp:∀ id o,lkp (Zi (Zi (Z6 (Qm (if cl then [] else ab) (VL gn hp)) []) (ZbK (VZ ids base) ids out)) (ZbL (VZ ids base) base (out.drop ids.length))) id=some o →
   (∃ (k:Nat) (o0:Zk),out[k]?=some o0∧id=VZ ids base k∧o=Zkx (VZ ids base) o0) ∨
   (id∉ids∧∃ o0,lkp hp id=some o0∧o=(if (if cl then [] else ab).contains id then Y5 (Xp gn o0) else Xp gn o0)):=by
  intro id o hl;rcases JL _ _ _ _ hl with hm | hm
  ·obtain⟨j,o0,h1,h2,h3⟩:=Zo9 _ _ _ _ _ hm;rw[Lo] at h1;refine .inl ⟨ids.length+j,o0,h1,?_,h3⟩;have hg:ids[ids.length+j]?=none:=KZ o_;simp only[VZ,hg,ZjG];omega
  ·rcases Znh _ _ _ _ hm with hm | ⟨b1,hm⟩
   ·obtain⟨k,o0,h1,h2,h3⟩:=Zjv _ _ _ _ _ hm;exact .inl ⟨k,o0,h2,by simp[VZ,h1,ZjG],h3⟩
   ·simp only[Z6] at hm;rw[Qc,VS] at hm;have ai:id∉ids:=fun hi=>by obtain⟨o',bq⟩:=Zo8 (VZ ids base) ids out id a5 hi;exact b1 o' bq
    cases aj:lkp hp id with
    | none=>rw[aj] at hm;cases hm
    | some o0=>
     rw[aj] at hm;simp only[K4,Option.some.injEq] at hm;exact .inr ⟨ai,o0,rfl,hm.symm⟩
 have ae:∀ id o b,id∉ids→lkp hp id=some o→Blk Γ w id o b→¬Zzi Γ w hp ids w.heap.size b:=by
  rintro id o b ai hl ag (bj | ⟨ax,al,o',bq,ap⟩)
  ·have:=h.blk_lt hl ag;omega
  ·have:=h.inj id ax o o' b hl bq ag ap;exact ai (this ▸ al)
 refine⟨I2,Γ2,am,ah,?_,?_,?_⟩
 ·intro b hb;rcases aa.sub b hb.1 with h1 | h1
  ·exact h.frozeL_F h1
  ·exact .inr (az b h1)
 ·exact⟨aa.fr.os,aa.fr.tape,aa.fr.output,aa.fr.size,fun k hk b2=>aa.fr.block k hk fun hc=>b2 (az k hc)⟩
 ·refine { nt:=by rw[ZvY];exact h.nt,dfr:=by rw[Zql];exact h.dfr,slots:=?_,objs:=?_,inj:=?_,bound:=fun b hb=>aa.bound b hb.1,fresh:=fun b hb=>h.fresh b (by have:=aa.fr.size;omega),own:=h.own,names:=?_,glob:=h.glob.mono ah }
  ·intro t;show Rep Γ2 w' I2 (gs (Zs (Xc gn sl) dst (ren (VZ ids base) r)) t) _;rw[QC,ZyQ h.nt hd];split
   ·have h1:Rep Γ' w' I2 r v:=by
     cases hq:cl with
     | false=>exact aa.res.mono (Qa.refl _) ⟨fun b hb=>⟨hb,fun ak=>by rw[hq] at ak;cases ak⟩,fun _ _=>rfl⟩
     | true=>
      rw[hq] at ar;simp only[Kf] at ar;exact Zzh ar.1 aa.res
    exact ZoP (a9 _) (ZO.refl I2 w') h1
   ·rw[QN];have h1:=Zu3 (bad:=gn) (h.slots t);have h2:=ZoP (g:=fun k=>k) (fun id _ r hr=>am id r hr) ah h1
    rwa [ren_id] at h2
  ·intro id o hl;rcases bp id o hl with ⟨k,o0,h1,rfl,rfl⟩ | ⟨ai,o0,aj,rfl⟩
   ·exact bl k o0 h1
   ·have ao:∀ b,Blk Γ w id o0 b→w'.heap[b]?=w.heap[b]?:=fun b hb=>aa.fr.block b (h.blk_lt aj hb) (ae id o0 b ai aj hb);have ba:(if cl=true then [] else ab).contains id=true→cl=false∧id∈ab:=by
     intro hq;cases br:cl<;>rw[br] at hq<;>simp at hq
     exact⟨rfl,hq⟩
    have bd:∀ b,Blk Γ w id o0 b→((if cl=true then [] else ab).contains id=false∨o0.soft=false)→I2 b→I b:=by
     intro b ag ay hi;rcases aa.sub b hi.1 with h1 | h1
     ·rcases h1 with h1 | ⟨ax,al,o',a0,bc,ap⟩
      ·exact h1
      ·have he:=h.inj id ax _ _ b aj a0 ag ap;subst he;rw[aj] at a0;cases a0;cases hq:cl with
       | true=>exact hi.2 hq (.inr ⟨id,al,_,aj,bc,ag⟩)
       | false=>
        rcases ay with ay | ay
        ·rw[hq] at ay;simp at ay;exact absurd al ay
        ·rw[bc] at ay;cases ay
     ·exact absurd h1 (ae id o0 b ai aj ag)
    have ho:=h.objs id o0 aj;have hG:=an id o0 ai aj;cases o0 with
    | gone=>
     have hz:(if (if cl=true then [] else ab).contains id=true then Y5 (Xp gn .gone) else Xp gn .gone)=.gone:=by cases (if cl=true then [] else ab).contains id<;>rfl
     rw[hz];obtain⟨r,hr⟩:=ho;exact⟨r,by rw[hG];exact hr⟩
    | tree sz ns xs lk=>
     cases hq:(if cl=true then [] else ab).contains id with
     | true=>
      obtain⟨br,bs⟩:=ba hq;exfalso
      rw[br] at aq;simp only[Kay,Kaf,Lz] at aq;have:ab.any (fun i=>ZbM (lkp hp i))=true:=LM.2 ⟨id,bs,by rw[aj];rfl⟩;rw[this] at aq;cases aq
     | false=>
      simp only[Ka,Km];obtain⟨ad,n,c,h2,h3,h4⟩:=ho;have ag:∀ b,(Zz (some (.row ad n c sz))=some b∨∃ g B,Zz (some (.row ad n c sz))=some g∧ZY (Up w g (Y4 sz lk)) ns B g sz xs 0∧b∈B)→w'.heap[b]?=w.heap[b]?∧(I2 b→I b):=fun b hb=>by
       rw[← h2] at hb;have ap : Blk Γ w id (.tree sz ns xs lk) b:=hb.elim .inl fun h=>.inr (.inl h);exact⟨ao b ap,bd b ap (.inl hq)⟩
      refine⟨ad,n,c,by rw[hG,h2],?_,?_⟩
      ·rw[Uw];exact h3.mono fun b hb=>⟨(ag b hb).1,(ag b hb).2,fun h=>h⟩
      ·cases lk with
       | none=>exact trivial
       | some q=>exact Yj.kill h4 (fun k _ r hr=>am k r hr) fun g hg=>(ag g (.inl (Yj.blk h3 (by simp) hg))).1
    | box cs=>
     have hz:(if (if cl=true then [] else ab).contains id=true then Y5 (Xp gn (.box cs)) else Xp gn (.box cs))=.box (cs.map (ZS gn)):=by
      cases (if cl=true then [] else ab).contains id<;>rfl
     rw[hz];obtain⟨b,cur,e,h2,h3,h4,h5,h6,bm⟩:=ho;have ag:Blk Γ w id (.box cs) b:=.inl (by rw[h2];rfl);refine⟨b,cur,e,by rw[hG,h2],by rw[ao b ag,h3],fun hi=>h4 (bd b ag (.inr rfl) hi),h5,?_,(bm.mono fun x te l u v g hc hv hg=>have hB:=Or.inr (Or.inr (ZxJ h2 h3 hc hv hg));⟨ao g hB,bd g hB (.inr rfl),fun h=>h⟩).map (Uh _)⟩;have h7:=h6.map_left (S:=Xw Γ w I) (f:=ZS gn) fun _ _ h=>Zl4 h;have h8:=Zec (g:=fun k=>k) (Γ':=Γ2) (fun ax _ r hr=>am ax r hr) ah h7
     rwa [Zu7] at h8
    | row sz xs ex fz=>
     obtain⟨ad,n,c,h2,h3,h4⟩:=ho;have hz:∃ bb,(if (if cl=true then [] else ab).contains id=true then Y5 (Xp gn (.row sz xs ex fz)) else Xp gn (.row sz xs ex fz))=.row sz xs ex bb ∧
       (bb=false→fz=false∧(if cl=true then [] else ab).contains id=false)∧(bb=true→fz=true∨(fz=false∧cl=false∧id∈ab)):=by
      cases hq:(if cl=true then [] else ab).contains id with
      | true=>
       refine⟨true,rfl,(fun h=>by cases h),fun _=>?_⟩;cases fz
       ·exact .inr ⟨rfl,ba hq⟩
       ·exact .inl rfl
      | false=>exact⟨fz,rfl,fun hf=>⟨hf,rfl⟩,fun hf=>.inl hf⟩
     obtain⟨bb,hz,b3,b4⟩:=hz;rw[hz];refine⟨ad,n,c,by rw[hG,h2],h3,?_⟩;rcases h4 with h4 | ⟨g,q0,cur,e,rfl,hc,hw,h5,h6,h7,h8,h9,bn,a1⟩
     ·exact .inl h4
     ·have ag:Blk Γ w id (.row sz xs ex fz) g:=.inl (by rw[h2];simp[Zz,KE hc]);refine .inr ⟨g,q0,cur,e,rfl,hc,by rw[ao g ag,hw],h5,h6,h7,h8,?_,bn,?_⟩
      ·cases bb with
       | false=>
        obtain⟨hf,hq⟩:=b3 rfl;rw[hf] at h9;simp at h9 ⊢;exact fun hi=>h9 (bd g ag (.inl hq) hi)
       | true=>
        simp;rcases b4 rfl with hf | ⟨hf,hq,bs⟩
        ·rw[hf] at h9;simp at h9;exact bi g h9
        ·subst hf;exact⟨aa.keeps.sub g (.inr ⟨id,bs,_,aj,rfl,ag⟩),fun bu=>by rw[hq] at bu;cases bu⟩
      ·cases ex
       ·exact a1.mono' ah (ao g ag)
       ·simp only[Kl] at a1 ⊢;exact a1.mono' ⟨fun b hb=>⟨bi b hb.1,hb.2⟩,fun b hb=>ah.blk b hb.1⟩ (ao g ag)
  ·have bk:∀ (k:Nat) (o0:Zk) (b:Nat),out[k]?=some o0→Blk Γ2 w' (VZ ids base k) (Zkx (VZ ids base) o0) b→Blk Γ' w' k o0 b:=by
    intro k o0 b h1 hb;have e:=af k (Kc.1 h1).1;rcases hb with hb | hb | hb
    ·rw[Zme,e] at hb;exact .inl hb
    ·cases o0 with
     | box cs=>exact False.elim hb
     | row sz xs ex fz=>exact False.elim hb
     | gone=>exact False.elim hb
     | tree sz ns xs lk=>
      obtain⟨g,p,h2,h3⟩:=hb;rw[Uv] at h3;exact .inr (.inl ⟨g,p,e ▸ h2,h3⟩)
    ·cases o0 with
     | box cs=>exact .inr (.inr ((Buf.unmap (Zbo _) hb).ren e.symm))
     | row sz xs ex fz=>exact False.elim hb
     | gone=>exact False.elim hb
     | tree sz ns xs lk=>exact False.elim hb
   have bo:∀ (id:Nat) (o0:Zk) (b:Nat),id∉ids→lkp hp id=some o0→Blk Γ2 w' id (if (if cl then [] else ab).contains id then Y5 (Xp gn o0) else Xp gn o0) b→Blk Γ w id o0 b:=by
    intro id o0 b ai hl hb;have hb:=Zg3 hb;have h1:Blk Γ2 w' id o0 b:=by
     rcases hb with hb | hb | hb
     ·rw[ZjE] at hb;exact .inl hb
     ·cases o0 with
      | box cs=>exact False.elim hb
      | row sz xs ex fz=>exact False.elim hb
      | gone=>exact False.elim hb
      | tree sz ns xs lk=>
       obtain⟨g,p,h2,h3⟩:=hb;rw[Uw] at h3;exact .inr (.inl ⟨g,p,h2,h3⟩)
     ·cases o0 with
      | box cs=>exact .inr (.inr (Buf.unmap (Uh _) hb))
      | row sz xs ex fz=>exact False.elim hb
      | gone=>exact False.elim hb
      | tree sz ns xs lk=>exact False.elim hb
    exact h1.back (h.objs id o0 hl) (an id o0 ai hl) fun g hg=>aa.fr.block g (h.blk_lt hl hg) (ae id o0 g ai hl hg)
   intro i j o o' b hi hj be bf;rcases bp i o hi with ⟨k,o0,h1,rfl,rfl⟩ | ⟨ai,o0,aj,rfl⟩<;>rcases bp j o' hj with ⟨k',o1,h2,rfl,rfl⟩ | ⟨a2,o1,bg,rfl⟩
   ·have:=aa.inj k k' o0 o1 b (by rw[WG];simpa using h1) (by rw[WG];simpa using h2) (bk k o0 b h1 be) (bk k' o1 b h2 bf);rw[this]
   ·exact absurd (ZkU (aa.objs k o0 (by rw[WG];simpa using h1)) (bk k o0 b h1 be)) (ae j o1 b a2 bg (bo j o1 b a2 bg bf))
   ·exact absurd (ZkU (aa.objs k' o1 (by rw[WG];simpa using h2)) (bk k' o1 b h2 bf)) (ae i o0 b ai aj (bo i o0 b ai aj be))
   ·exact h.inj i j o0 o1 b aj bg (bo i o0 b ai aj be) (bo j o1 b a2 bg bf)
  ·intro id av;show Zgx Γ Γ' ids base id=none;simp only[Zgx];rw[Ke,Ke]
   ·exact h.names id (fun hu=>av (.inl hu))
   ·exact fun hh=>av (.inr hh)
   ·intro hm;obtain⟨o,ho⟩:=au id hm;exact av (.inl (h.id_in ho))
end
end Go.Abs
