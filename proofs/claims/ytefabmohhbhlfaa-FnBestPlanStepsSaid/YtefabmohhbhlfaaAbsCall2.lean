/- Own text. -/
import Derived.Test.YtefabmohhbhlfaaAbsStep8
set_option linter.unusedVariables false
set_option linter.unusedSimpArgs false
namespace Go.Abs
open Go
section
variable {Γ Γ' : Gh} {w w' : World} {I I' : Nat→Prop}
def AV.small:AV→Bool
 | .d _=>false
 | .agg _=>false
 | .tup _=>false
 | .clo _ _=>false
 | _=>true
theorem VH {x:AV} (hs:x.small=true) (v:Value):(Rep Γ w I x v=XX Γ w I x v)∧(W2 Γ w I x v=XX Γ w I x v)∧(Xd Γ w I x v=XX Γ w I x v):=by
 cases x<;>first | exact⟨rfl,rfl,rfl⟩ | cases hs
theorem XN {x:AV} (hs:x.small=true) (g:Nat→Nat) (bad:List Nat) :
  ren g x=Zbw g x∧J7 g x=Zbw g x∧kill bad x=ZW bad x∧ZH bad x=ZW bad x∧Zo x=Ze x∧Zp x=Ze x:=by
 cases x<;>first | exact⟨rfl,rfl,rfl,rfl,rfl,rfl⟩ | cases hs
def UD (Γ Γ' : Gh) (g:Nat→Nat) (ids:List Nat):Prop:=∀ id∈ids,∀ r,Γ id=some r→Γ' (g id)=some r
theorem ZeS {g:Nat→Nat} {x:AV} {v:Value} (hg:UD Γ Γ' g (Ze x)) (hk:ZF I I' w w') (h:XX Γ w I x v):XX Γ' w' I' (Zbw g x) v:=by
 cases x with
 | d x=>exact⟨h.1,h.2.mono hk⟩
 | nil=>exact h
 | nilp=>exact h
 | nili=>exact h
 | ptr id off=>obtain⟨b,h1,h2⟩:=h;exact⟨b,hg id (by simp[Ze]) _ h1,h2⟩
 | prow id sz i off=>obtain⟨b,o,n,c,h1,h2⟩:=h;exact⟨b,o,n,c,hg id (by simp[Ze]) _ h1,h2⟩
 | pim cs=>obtain⟨b,o,vs,h1,h2,h3,h4⟩:=h;exact⟨b,o,vs,h1,hk.sub b h2,h3.mono (hk.blk b h2),h4.mono hk⟩
 | own id=>obtain⟨a,n,c,sz,h1,h2⟩:=h;exact⟨a,n,c,sz,hg id (by simp[Ze]) _ h1,h2⟩
 | ownv id off n=>obtain⟨a0,m,c,sz,a,h1,h2⟩:=h;exact⟨a0,m,c,sz,a,hg id (by simp[Ze]) _ h1,h2⟩
 | bnil id e=>obtain⟨b,h1,h2⟩:=h;exact⟨b,hg id (by simp[Ze]) _ h1,h2⟩
 | bbuf a b=>exact h
 | agg cs=>exact h.elim
 | tup cs=>exact h.elim
 | clo f cs=>exact h.elim
 | junk=>exact trivial
theorem ZeT {g:Nat→Nat}:∀ {xs:List AV} {vs:List Value},UD Γ Γ' g (xs.flatMap Ze)→ZF I I' w w'→Zr (XX Γ w I) xs vs→Zr (XX Γ' w' I') (xs.map (Zbw g)) vs
 | [],[],_,_,_=>trivial
 | [],_ :: _,_,_,h=>h.elim
 | _ :: _,[],_,_,h=>h.elim
 | x :: xs,v :: vs,hg,hk,h=>⟨ZeS (fun id aa=>hg id (by simp[aa])) hk h.1,ZeT (fun id aa=>hg id (by simp only[KG,Kc];exact .inr aa)) hk h.2⟩
theorem Zsq {g:Nat→Nat} {x:AV} {v:Value} (hg:UD Γ Γ' g (Zp x)) (hk:ZF I I' w w') (h:Xd Γ w I x v):Xd Γ' w' I' (J7 g x) v:=by
 by_cases hs:x.small=true
 ·rw[(XN hs g []).2.2.2.2.2] at hg;rw[(VH hs v).2.2] at h;rw[(XN hs g []).2.1];exact(ZeS hg hk h).repB
 ·cases x with
  | clo f cs=>obtain⟨us,h1,h2⟩:=h;exact⟨us,h1,ZeT hg hk h2⟩
  | agg cs=>exact h.elim
  | tup cs=>exact h.elim
  | d x=>exact⟨h.1,h.2.mono hk⟩
  | _=>exact absurd rfl hs
theorem ZiH {g:Nat→Nat} {x:AV} {v:Value} (hg:UD Γ Γ' g (Zp x)) (hk:ZF I I' w w') (h:W2 Γ w I x v):W2 Γ' w' I' (J7 g x) v:=by
 by_cases hs:x.small=true
 ·rw[(XN hs g []).2.2.2.2.2] at hg;rw[(VH hs v).2.1] at h;rw[(XN hs g []).2.1];exact(ZeS hg hk h).rep2
 ·cases x with
  | clo f cs=>obtain⟨us,h1,h2⟩:=h;exact⟨us,h1,ZeT hg hk h2⟩
  | agg cs=>obtain⟨us,h1,h2⟩:=h;exact⟨us,h1,ZeT hg hk h2⟩
  | tup cs=>exact h.elim
  | d x=>exact ZmH.2 ((ZmH.1 h).mono hk)
  | _=>exact absurd rfl hs
theorem ZkY {g:Nat→Nat}:∀ {xs:List AV} {vs:List Value},UD Γ Γ' g (xs.flatMap Zp)→ZF I I' w w'→Zr (W2 Γ w I) xs vs→Zr (W2 Γ' w' I') (xs.map (J7 g)) vs
 | [],[],_,_,_=>trivial
 | [],_ :: _,_,_,h=>h.elim
 | _ :: _,[],_,_,h=>h.elim
 | x :: xs,v :: vs,hg,hk,h=>⟨ZiH (fun id aa=>hg id (by simp only[KG,Kc];exact .inl aa)) hk h.1,ZkY (fun id aa=>hg id (by simp only[KG,Kc];exact .inr aa)) hk h.2⟩
theorem Za0 {g:Nat→Nat}:∀ {xs:List AV} {vs:List Value},UD Γ Γ' g (xs.flatMap Zp)→ZF I I' w w'→Zr (Xd Γ w I) xs vs→Zr (Xd Γ' w' I') (xs.map (J7 g)) vs
 | [],[],_,_,_=>trivial
 | [],_ :: _,_,_,h=>h.elim
 | _ :: _,[],_,_,h=>h.elim
 | x :: xs,v :: vs,hg,hk,h=>⟨Zsq (fun id aa=>hg id (by simp only[KG,Kc];exact .inl aa)) hk h.1,Za0 (fun id aa=>hg id (by simp only[KG,Kc];exact .inr aa)) hk h.2⟩
theorem ZhD {g:Nat→Nat} {x:AV} {v:Value} (hg:UD Γ Γ' g (Zo x)) (hk:ZF I I' w w') (h:Rep Γ w I x v):Rep Γ' w' I' (ren g x) v:=by
 by_cases hs:x.small=true
 ·rw[(XN hs g []).2.2.2.2.1] at hg;rw[(VH hs v).1] at h;rw[(XN hs g []).1];exact(ZeS hg hk h).rep2.rep
 ·cases x with
  | tup vs=>obtain⟨us,h1,h2⟩:=h;exact⟨us,h1,ZkY hg hk h2⟩
  | clo f cs=>exact ZiH (g:=g) (x:=.clo f cs) hg hk h
  | agg cs=>exact ZiH (g:=g) (x:=.agg cs) hg hk h
  | d x=>exact QR.2 ((QR.1 h).mono hk)
  | _=>exact absurd rfl hs
theorem Zc7 {bad:List Nat} {x:AV} {v:Value} (h:XX Γ w I x v):XX Γ w I (ZW bad x) v:=by
 cases x<;>simp only[ZW]<;>first | exact h | (split<;>first | exact trivial | exact h)
theorem ZfZ {bad:List Nat} {xs:List AV} {vs:List Value} (h:Zr (XX Γ w I) xs vs):Zr (XX Γ w I) (xs.map (ZW bad)) vs:=h.map_left fun _ _ h=>Zc7 h
theorem Zf0 {bad:List Nat} {x:AV} {v:Value} (h:Xd Γ w I x v):Xd Γ w I (ZH bad x) v:=by
 by_cases hs:x.small=true
 ·rw[(VH hs v).2.2] at h;rw[(XN hs id bad).2.2.2.1];exact(Zc7 h).repB
 ·cases x with
  | clo f cs=>obtain⟨us,h1,h2⟩:=h;exact⟨us,h1,ZfZ h2⟩
  | agg cs=>exact h.elim
  | tup cs=>exact h.elim
  | d x=>exact h
  | _=>exact absurd rfl hs
theorem Zf1 {bad:List Nat} {x:AV} {v:Value} (h:W2 Γ w I x v):W2 Γ w I (ZH bad x) v:=by
 by_cases hs:x.small=true
 ·rw[(VH hs v).2.1] at h;rw[(XN hs id bad).2.2.2.1];exact(Zc7 h).rep2
 ·cases x with
  | clo f cs=>obtain⟨us,h1,h2⟩:=h;exact⟨us,h1,ZfZ h2⟩
  | agg cs=>obtain⟨us,h1,h2⟩:=h;exact⟨us,h1,ZfZ h2⟩
  | tup cs=>exact h.elim
  | d x=>exact h
  | _=>exact absurd rfl hs
theorem Zni {bad:List Nat} {x:AV} {v:Value} (h:Rep Γ w I x v):Rep Γ w I (kill bad x) v:=by
 by_cases hs:x.small=true
 ·rw[(VH hs v).1] at h;rw[(XN hs id bad).2.2.1];exact(Zc7 h).rep2.rep
 ·cases x with
  | tup vs=>obtain⟨us,h1,h2⟩:=h;exact⟨us,h1,h2.map_left fun _ _ h=>Zf1 h⟩
  | clo f cs=>exact(Zf1 (bad:=bad) (x:=.clo f cs) h).rep
  | agg cs=>exact(Zf1 (bad:=bad) (x:=.agg cs) h).rep
  | d x=>exact h
  | _=>exact absurd rfl hs
theorem Zd6 (bad:List Nat) (x:AV):∀ id∈Ze (ZW bad x),id∈Ze x∧id∉bad:=by
 intro id aa;cases x<;>simp only[ZW] at aa<;>first
  | (simp[Ze] at aa;done)
  | (split at aa
     ·simp [Ze] at aa
     ·rename_i hb;simp[Ze] at aa hb ⊢;first | (subst aa;simpa using hb) | (rcases aa with rfl | rfl<;>simp[hb]))
theorem Zbx (bad:List Nat) (xs:List AV):∀ id∈(xs.map (ZW bad)).flatMap Ze,id∈xs.flatMap Ze∧id∉bad:=by
 intro id aa;obtain⟨y,hy,aa⟩:=Kr.1 aa;obtain⟨x,hx,rfl⟩:=KQ.1 hy;obtain⟨h1,h2⟩:=Zd6 bad x id aa;exact⟨Kr.2 ⟨x,hx,h1⟩,h2⟩
theorem Zd7 (bad:List Nat) (x:AV):∀ id∈Zp (ZH bad x),id∈Zp x∧id∉bad:=by
 intro id aa;by_cases hs:x.small=true
 ·rw[(XN hs (fun k=>k) bad).2.2.2.1] at aa;have ab : Zp (ZW bad x)=Ze (ZW bad x):=by
   cases x<;>simp only[ZW]<;>first | rfl | (split<;>rfl) | (cases hs)
  rw[ab] at aa;rw[(XN hs (fun k=>k) bad).2.2.2.2.2];exact Zd6 bad x id aa
 ·cases x with
  | agg cs=>exact Zbx bad cs id aa
  | clo f cs=>exact Zbx bad cs id aa
  | tup cs=>simp[ZH,ZW,Zp,Ze] at aa
  | d x=>simp[ZH,ZW,Zp,Ze] at aa
  | _=>exact absurd rfl hs
theorem ZkZ (bad:List Nat) (x:AV):∀ id∈Zo (kill bad x),id∈Zo x∧id∉bad:=by
 intro id aa;by_cases hs:x.small=true
 ·rw[(XN hs (fun k=>k) bad).2.2.1] at aa;have ab : Zo (ZW bad x)=Ze (ZW bad x):=by
   cases x<;>simp only[ZW]<;>first | rfl | (split<;>rfl) | (cases hs)
  rw[ab] at aa;rw[(XN hs (fun k=>k) bad).2.2.2.2.1];exact Zd6 bad x id aa
 ·cases x with
  | tup vs=>
   obtain⟨y,hy,aa⟩:=Kr.1 aa;obtain⟨x,hx,rfl⟩:=KQ.1 hy;obtain⟨h1,h2⟩:=Zd7 bad x id aa;exact⟨Kr.2 ⟨x,hx,h1⟩,h2⟩
  | agg cs=>exact Zbx bad cs id aa
  | clo f cs=>exact Zbx bad cs id aa
  | d x=>simp[kill,ZH,ZW,Zo,Zp,Ze] at aa
  | _=>exact absurd rfl hs
end
theorem WR (hp:Hp):∀ (n:Nat) (todo aa:List Nat),aa.Nodup→(QF hp n todo aa).Nodup∧(∀ id∈aa,id∈QF hp n todo aa)∧(∀ id∈QF hp n todo aa,id∈aa∨∃ o,lkp hp id=some o)
 | 0,todo,aa,h=>by simp only[QF];exact⟨h,fun _ h=>h,fun _ h=>.inl h⟩
 | n+1,[],aa,h=>by simp only[QF];exact⟨h,fun _ h=>h,fun _ h=>.inl h⟩
 | n+1,id :: todo,aa,h=>by
  simp only[QF];split
  ·exact WR hp n todo aa h
  ·rename_i hc;cases hl:lkp hp id with
   | none=>simp only[WZ];exact WR hp n todo aa h
   | some o=>
    simp only[WZ];have ab:(aa++[id]).Nodup:=by
     rw[Lw];refine⟨h,by simp,?_⟩;intro a ha b hb;simp at hb;subst hb;intro e;subst e;simp at hc;exact hc ha
    obtain⟨h1,h2,h3⟩:=WR hp n (todo++WP o) (aa++[id]) ab;refine⟨h1,fun x hx=>h2 x (by simp[hx]),fun x hx=>?_⟩;rcases h3 x hx with h4 | h4
    ·simp at h4;rcases h4 with h4 | rfl
     ·exact .inl h4
     ·exact .inr ⟨o,hl⟩
    ·exact .inr h4
theorem ZeU:∀ {ids:List Nat} {id:Nat},id∈ids→YX ids id<ids.length∧ids[YX ids id]?=some id
 | [],_,h=>by simp at h
 | x :: r,id,h=>by
  simp only[YX];split
  ·rename_i e;subst e;simp
  ·rename_i e;rcases Ke.1 h with h | h
   ·exact absurd h.symm e
   ·obtain⟨h1,h2⟩:=ZeU h;exact⟨by simp;omega,by simpa using h2⟩
theorem Zc8:∀ {ids:List Nat},ids.Nodup→∀ {k id:Nat},ids[k]?=some id→YX ids id=k
 | [],_,k,id,h=>by simp at h
 | x :: r,hn,k,id,h=>by
  rw[KY] at hn;cases k with
  | zero=>simp at h;subst h;simp[YX]
  | succ k=>
   simp at h;have aa:x≠id:=fun e=>hn.1 (e ▸ Kp h);simp only[YX,Kl aa,Zc8 hn.2 h]
def ZqV {α:Type} (b:Option α):Option α→Option α
 | some v=>some v
 | none=>b
theorem ZeV {α:Type}:∀ (l:List (Nat×α)) (k:Nat) (v:α) (t:Nat),lkp (l++[(k,v)]) t=ZqV (if k=t then some v else none) (lkp l t)
 | [],k,v,t=>by simp[lkp,ZqV]
 | (j,x) :: l,k,v,t=>by
  by_cases h:j=t
  ·simp[lkp,h,ZqV]
  ·simp[lkp,h,ZeV l k v t]
theorem WS:∀ (l:List Zg) (k i:Nat),lkp (Vn k l) i=if k≤i then l[i-k]? else none
 | [],k,i=>by simp[Vn,lkp]
 | o :: r,k,i=>by
  simp only[Vn,ZeV,WS r];by_cases h1:k=i
  ·subst h1;simp[ZqV,Nat.not_succ_le_self]
  ·by_cases h2:k≤i
   ·rw[Kl h1,Km (by omega),Km h2];have:i-k=(i-(k+1))+1:=by omega
    rw[this];simp;cases r[i-(k+1)]? <;> rfl
   ·rw[Kl h1,Kl (by omega),Kl h2];rfl
theorem ZiI (hp:Hp):∀ (ids:List Nat) (k:Nat),(ZaH hp ids)[k]?=(ids[k]?).map fun id=>ZnT (lkp hp id)
 | [],k=>by simp[ZaH]
 | id :: r,0=>by simp[ZaH]
 | id :: r,k+1=>by simp[ZaH,ZiI hp r k]
end Go.Abs
set_option linter.unusedVariables false
set_option linter.unusedSimpArgs false
namespace Go.Abs
open Go
structure Pre (F A I:Nat→Prop) (Γ:Gh) (h:List Zg) (as:List AV) (args:List Value) (w:World):Prop where
 args:Zr (Rep Γ w I) as args
 objs:Uo Γ w I F A (Vn 0 h)
 inj:∀ i j o o' b,lkp (Vn 0 h) i=some o→lkp (Vn 0 h) j=some o'→Blk Γ w i o b→Blk Γ w j o' b→i=j
 bound:∀ b,I b→b<w.heap.size
 fresh:∀ b,w.heap.size≤b→F b
 own:∀ b,F b→A b
 names:∀ id,h.length≤id→Γ id=none
 glob:Zgh I w
structure Back (F A I:Nat→Prop) (Γ:Gh) (w:World) (hs:List Zg) (res:AV) (I' : Nat→Prop) (Γ' : Gh) (v:Value) (w' : World):Prop where
 heads:Z6 Γ Γ'
 keeps:ZF I I' w w'
 sub:∀ b,I' b→I b∨F b
 fr:Fr F w w'
 res:Rep Γ' w' I' res v
 objs:Uo Γ' w' I' F A (Vn 0 hs)
 inj:∀ i j o o' b,lkp (Vn 0 hs) i=some o→lkp (Vn 0 hs) j=some o'→Blk Γ' w' i o b→Blk Γ' w' j o' b→i=j
 bound:∀ b,I' b→b<w'.heap.size
 names:∀ id,hs.length≤id→Γ' id=none
def Enters (P:Program) (f:FuncId):Prop:=∃ fn,P.funcs[f]?=some fn∧(fn.name == "runtime.NumGoroutine")=false∧fn.body.isNone=false
def ZiJ (P:Program) (f:FuncId) (as:List AV) (h:List Zg) (res:AV) (hs:List Zg):Prop:=
 Enters P f∧∀ (F A I:Nat→Prop) (Γ:Gh) (args:List Value) (w:World),Pre F A I Γ h as args w→Calls P f args.toArray w fun e w'=>∃ v I' Γ',e=.returned v∧Back F A I Γ w hs res I' Γ' v w'
def Qo (P:Program) (C:Orc):Prop:=∀ f as h res hs,C f as h=some (res,hs)→ZiJ P f as h res hs
section
variable {P:Program} {nt:Nat} {U:Nat→Prop} {F A I:Nat→Prop} {Γ:Gh} {sl:Sl} {hp:Hp} {a:Act} {w:World}
def Znj (P:Program) (nt:Nat) (F A I:Nat→Prop) (Γ:Gh) (U:Nat→Prop) (sl:Sl) (hp:Hp) (a:Act) (w:World) (o:Oper) (base:Nat) (ce:Zb):Prop:=
 ∀ (K:Act→World→Prop) (Q:Exit→Act→World→Prop),(∀ u w',YB nt F A I Γ w (W3 U base) (ce.on o.dst sl hp).1 (ce.on o.dst sl hp).2 (a.put o.dst u) w'→K (a.put o.dst u) w')→o.wp P a w K Q
theorem ZaP.opWp {o:Oper} {base:Nat} {ce:Zb} (h:ZaP P nt F A I Γ U sl hp a w o base ce):Znj P nt F A I Γ U sl hp a w o base ce:=by
 intro K Q hK;obtain⟨u,w',h1,h2⟩:=h;exact h1.wp (hK u w' h2)
def ZkD (Γ:Gh) (w:World) (hp:Hp) (I' : Nat→Prop) (ids:List Nat):Prop:=∀ id∈ids,∀ o b,lkp hp id=some o→ZcB (some o)=true→Blk Γ w id o b→I' b
theorem ZkD.sub {I' : Nat→Prop} {ids aa : List Nat} (h:ZkD Γ w hp I' ids) (hs:∀ id∈aa,id∈ids):ZkD Γ w hp I' aa:=fun id ab=>h id (hs id ab)
theorem ZoI (h:Uo Γ w I F A hp) (ids:List Nat):ZkD Γ w hp (ZcQ Γ w hp I ids) ids:=by
 intro id aa o b hl hr hb;cases o with
 | box cs=>cases hr
 | gone=>exact hb.isGone.elim
 | tree sz ns xs lk=>exact .inr ⟨id,aa,_,hl,rfl,hb⟩
 | row sz xs ex fz=>
  cases fz with
  | false=>exact .inr ⟨id,aa,_,hl,rfl,hb⟩
  | true=>
   have hb:=hb.row;obtain⟨ad,n,c,h1,h2,h3⟩:=h id _ hl;rw[h1] at hb;obtain⟨ae,rfl,rfl,hc⟩:=ZlD hb;rcases h3 with h3 | ⟨g,q0,cur,e,hg,h4,h5,h6,h7,h8,h9,ab,af⟩
   ·exact absurd h3.2 hc
   ·cases hg;exact .inl (by simpa using ab)
theorem Znk (h:Uo Γ w I F A hp) {I' : Nat→Prop} (hI:∀ b,I b→I' b) {id:Nat} (aa:ZkD Γ w hp I' [id]) {xs:List D} (he:VF (lkp hp id)=some xs) :
  ∃ ad n c sz,Γ id=some (.row ad n c sz)∧n=xs.length∧n≤c∧((n=0∧c=0)∨∃ g q,ad=some ⟨g,q,none⟩∧I' g∧0<sz∧VU w I' g sz xs q):=by
 unfold VF at he;split at he
 ·rename_i sz af ex fz hl;cases he;obtain⟨ad,n,c,h1,h2,h3⟩:=h id _ hl;refine⟨ad,n,c,sz,h1,h2,?_⟩;rcases h3 with h3 | ⟨g,q0,cur,e,rfl,hc,hw,h4,h5,h6,h7,h8,hF,h9⟩
  ·exact⟨by omega,.inl h3⟩
  ·refine⟨h4,.inr ⟨g,q0,rfl,aa id (by simp) _ g hl rfl (.inl (by rw[h1];simp[Zq,Ky hc])),h7,?_⟩⟩;cases ex
   ·exact h9.mono' (Uy hI) rfl
   ·exact h9.mono' ⟨fun b hb=>hI b hb.1,fun _ _=>rfl⟩ rfl
 ·rename_i sz ns af hl;cases he;obtain⟨ad,n,c,h1,⟨h2,h3⟩,_⟩:=h id _ hl;refine⟨ad,n,c,sz,h1,h2,?_⟩;rcases h3 with h3 | ⟨g,cur,e,B,rfl,hc,hw,h4,h5,h6,ab,h8,h9,ag⟩
  ·exact⟨by omega,.inl ⟨h3.1,h3.2.1⟩⟩
  ·have ae:Zq (Γ id)=some g:=by rw[h1];simp[Zq,Ky hc]
   exact⟨h4,.inr ⟨g,0,rfl,aa id (by simp) _ g hl rfl (.inl ae),ab,h8.rep fun b hb=>aa id (by simp) _ b hl rfl (.inr (.inl ⟨g,B,ae,h8,hb⟩))⟩⟩
 ·cases he
theorem Zl9 (h:Uo Γ w I F A hp) {I' : Nat→Prop} (hI:∀ b,I b→I' b) {x:AV} {v:Value} (hx:Rep Γ w I x v) (aa:ZkD Γ w hp I' (Zac x)) {d:D} (hd:Zdw hp x=some d):Xj w I' d v:=by
 unfold Zdw at hd;split at hd
 ·cases hd;exact(QR.1 hx).mono (Uy hI)
 ·cases hd;obtain⟨ad,rfl⟩:=hx;exact⟨ad,0,rfl,by simp,.inl rfl⟩
 ·rename_i id;obtain⟨xs,h1,hd⟩:=Za hd;cases hd;obtain⟨ad,n,c,sz,h2,h3,h4,h5⟩:=Znk h hI aa h1;obtain⟨aj,n',c',af,h6,rfl⟩:=hx;rw[h2] at h6;cases h6;refine⟨ad,c,by rw[h3],by omega,?_⟩;rcases h5 with h5 | ⟨g,q,rfl,h7,h8,h9⟩
  ·exact .inl (Ko (by omega))
  ·exact .inr ⟨g,q,sz,rfl,h7,h8,h9⟩
 ·rename_i id off n;obtain⟨xs,h1,hd⟩:=Za hd;cases hd;obtain⟨ad,m,c,sz,h2,h3,h4,h5⟩:=Znk h hI aa h1;obtain⟨a0,m',c',af,av,h6,h7,h8,rfl,h9,ab⟩:=hx;rw[h2] at h6;cases h6;have ae:n=((xs.drop off).take n).length:=by simp;omega
  refine⟨av,c-off,by rw[← ae],by omega,?_⟩;by_cases hn:n=0
  ·exact .inl (Ko (by omega))
  ·rcases h5 with h5 | ⟨g,q,rfl,ag,ah,ai⟩
   ·omega
   ·rcases ab with ab | ab
    ·subst ab;exact .inr ⟨g,q+off*sz,sz,by simp[Vj],ag,ah,ZcT ai off n⟩
    ·omega
 ·cases hd
theorem Zp0 (h:Uo Γ w I F A hp) {I' : Nat→Prop} (hI:∀ b,I b→I' b):∀ {xs:List AV} {vs:List Value} {ds:List D},Zr (XX Γ w I) xs vs→ZkD Γ w hp I' (xs.flatMap Zac)→Qi (Zdw hp) xs=some ds→Ul D.one ds=true→QE w I' ds vs
 | [],[],ds,_,_,hd,_=>by simp only[Qi] at hd;cases hd;simp[QE]
 | [],_ :: _,_,h,_,_,_=>h.elim
 | _ :: _,[],_,h,_,_,_=>h.elim
 | x :: xs,v :: vs,ds,hr,hl,hd,h1=>by
  simp only[Qi] at hd;obtain⟨d,h2,hd⟩:=Za hd;obtain⟨ab,h3,hd⟩:=Za hd;cases hd;simp only[Ul,Kb] at h1;refine⟨v,vs,rfl,h1.1,(Xj.one h1.1).1 (Zl9 h hI hr.1.rep2.rep (hl.sub fun id aa=>by simp only[KG,Kc];exact .inl aa) h2),Zp0 h hI hr.2 (hl.sub fun id aa=>by simp only[KG,Kc];exact .inr aa) h3 h1.2⟩
theorem ZoJ (h:Uo Γ w I F A hp) {I' : Nat→Prop} (hI:∀ b,I b→I' b) {x:AV} {v:Value} (hx:Rep Γ w I x v) (aa:ZkD Γ w hp I' (Zbv x)) {d:D} (hd:toD hp x=some d):Xj w I' d v:=by
 unfold toD at hd;split at hd
 ·rename_i cs;obtain⟨ds,h1,hd⟩:=Za hd;split at hd
  ·rename_i h2;cases hd;obtain⟨vs,rfl,h3⟩:=hx;exact⟨vs,rfl,Zp0 h hI h3 aa h1 h2⟩
  ·cases hd
 ·rename_i ab;refine Zl9 h hI hx ?_ hd;cases x<;>first | exact aa | (exact absurd rfl (ab _))
def Zp1 (x y:AV):List Nat:=match y with
 | .d _=>Zbv x
 | _=>[]
theorem ZtY (h:Uo Γ w I F A hp) {I' : Nat→Prop} (hI:∀ b,I b→I' b) {m:Bool} {x y:AV} {v:Value} (hx:Rep Γ w I x v) (ha:J8 hp m x=some y) (aa:ZkD Γ w hp I' (Zp1 x y)):Rep Γ w I' y v:=by
 have keep:Rep Γ w I' x v:=hx.mono (Z6.refl Γ) (Uy hI);unfold J8 at ha;split at ha
 ·cases ha;exact keep
 ·cases ha;exact keep
 ·cases ha;exact keep
 ·cases ha;exact keep
 ·cases ha;exact keep
 ·rename_i id;cases m
  ·simp only[ZbF,asD] at ha;obtain⟨d,h1,ha⟩:=Za ha;cases ha;exact QR.2 (Zl9 h hI hx aa h1)
  ·simp only[ZbF] at ha;cases ha;exact keep
 ·cases m
  ·simp only[ZcA] at ha;cases ha;exact QR.2 (ZoJ h hI hx aa rfl)
  ·simp only[ZcA] at ha;cases ha;exact keep
 ·cases ha;exact keep
 ·cases m
  ·simp only[ZbG,asD] at ha;obtain⟨d,h1,ha⟩:=Za ha;cases ha;exact QR.2 (ZoJ h hI hx aa h1)
  ·simp only[ZbG] at ha;split at ha
   ·cases ha
   ·cases ha;exact keep
 ·obtain⟨d,h1,ha⟩:=Za ha;cases ha;exact QR.2 (ZoJ h hI hx aa h1)
theorem ZgD (x y:AV) (xs ys:List AV):XW (x :: xs) (y :: ys)=Zp1 x y++XW xs ys:=by
 cases y<;>simp[XW,Zp1]
theorem Zp2 (h:Uo Γ w I F A hp) {I' : Nat→Prop} (hI:∀ b,I b→I' b) (m:Nat→Bool):∀ {xs ys:List AV} {vs:List Value} (i:Nat),Zr (Rep Γ w I) xs vs→args hp m i xs=some ys→ZkD Γ w hp I' (XW xs ys)→Zr (Rep Γ w I') ys vs
 | [],ys,[],i,_,ha,_=>by simp only[args] at ha;cases ha;exact trivial
 | [],_,_ :: _,_,h,_,_=>h.elim
 | _ :: _,_,[],_,h,_,_=>h.elim
 | x :: xs,ys,v :: vs,i,hr,ha,hl=>by
  simp only[args] at ha;obtain⟨y,h1,ha⟩:=Za ha;obtain⟨ab,h2,ha⟩:=Za ha;cases ha;rw[ZgD] at hl;exact⟨ZtY h hI hr.1 h1 (hl.sub fun id aa=>by simp[aa]),Zp2 h hI m (i+1) hr.2 h2 (hl.sub fun id aa=>by simp[aa])⟩
def Zcm (ids:List Nat) (Γ:Gh):Gh:=fun k=>match ids[k]? with
 | some id=>Γ id
 | none=>none
theorem Ym {ids:List Nat} {k id:Nat} (h:ids[k]?=some id):Zcm ids Γ k=Γ id:=by simp[Zcm,h]
theorem Zcn {ids l:List Nat} (h:∀ id∈l,id∈ids):UD Γ (Zcm ids Γ) (YX ids) l:=by
 intro id aa r hr;rw[Ym (ZeU (h id aa)).2];exact hr
theorem ZgE {S S' : Nat→Prop} {b sz:Nat} {ys:List D} (hf:Ul D.flat ys=true) {o:Nat} (h:VU w S b sz ys o):VU w S' b sz ys o:=by
 rw[XD] at h ⊢;intro i x hx;obtain⟨vs,h1,h2,h3⟩:=h i x hx;refine⟨vs,h1,h2,?_⟩;have aa : x.flat=true:=by
  clear h h1 h2 h3
  induction ys generalizing i with
  | nil=>simp at hx
  | cons y ys ih=>
   simp only[Ul,Kb] at hf;cases i with
   | zero=>simp at hx;subst hx;exact hf.1
   | succ i=>simp at hx;exact ih hf.2 i hx
 have one:∀ {y:D} {v:Value},y.plain=true→ZL w S y [v]→ZL w S' y [v]:=by
  intro y v hy hv;cases y<;>first | (simpa [ZL] using hv) | (simp[D.plain] at hy)
 have all:∀ (ds:List D) (us:List Value),Ul D.plain ds=true→QE w S ds us→QE w S' ds us:=by
  intro ds
  induction ds with
  | nil=>intro us _ h;simpa [QE] using h
  | cons d ds ih=>
   intro us hp h;simp only[Ul,Kb] at hp;obtain⟨v,r,h1,h2,h3,h4⟩:=h;exact⟨v,r,h1,h2,one hp.1 h3,ih r hp.2 h4⟩
 have:=all x.cells vs aa h3.cells;exact ZkN (QW.1 this)
theorem Zfm.give {I' F' A' : Nat→Prop} {ad:Option Addr} {n c sz:Nat} {ys:List D} (h:Zfm w I F A ad n c sz ys true false) (hf:Ul D.flat ys=true)
  (hb:∀ b,Zq (some (.row ad n c sz))=some b→F b→F' b∧(I' b→I b)):Zfm w I' F' A' ad n c sz ys true false:=by
 obtain⟨h2,h3⟩:=h;refine⟨h2,?_⟩;rcases h3 with h3 | ⟨g,q0,cur,e,rfl,hc,hw,h4,h5,h6,h7,h8,aa,h9⟩
 ·exact .inl h3
 ·obtain⟨ab,ae⟩:=hb g (by simp[Zq,Ky hc]) aa;exact .inr ⟨g,q0,cur,e,rfl,hc,hw,h4,h5,h6,h7,by simp at h8 ⊢;exact fun hi=>h8 (ae hi),ab,ZgE hf h9⟩
theorem Znl {ids:List Nat} {id k:Nat} (hk:ids[k]?=some id) {o:Zg} (ho:XZ Γ w I F A id o) {I' F' A' : Nat→Prop} (hI:∀ b,I b→I' b) (hF:∀ b,Blk Γ w id o b→F' b) (hA:∀ b,I b→A b→A' b)
  (hn:∀ b,Blk Γ w id o b→I' b→I b):XZ (Zcm ids Γ) w I' F' A' k (UR ids o):=by
 cases o with
 | gone=>
  obtain⟨r,hr⟩:=ho;exact⟨r,by rw[Ym hk,hr]⟩
 | tree sz ns xs lk=>
  obtain⟨ad,n,c,h1,h2,h3⟩:=ho;refine⟨ad,n,c,by rw[Ym hk,h1],?_,XG.lose (XG.kill (Γ':=Γ) h3 (fun _ _ _ h=>h) fun _ _=>rfl)⟩;rw[Ww,Wx];refine h2.mono fun b hb=>?_;rw[← h1] at hb;have ab : Blk Γ w id (.tree sz ns xs lk) b:=hb.elim .inl fun h=>.inr (.inl h);exact⟨rfl,hn b ab,fun _=>hF b ab⟩
 | box cs=>
  obtain⟨b,cur,e,h1,h2,h3,h4,h5,af⟩:=ho;have hb:Blk Γ w id (.box cs) b:=.inl (by rw[h1];rfl);refine⟨b,cur,e,by rw[Ym hk,h1],h2,fun hi=>h3 (hn b hb hi),hF b hb,?_,((af.mono fun x te l u v g hc hv hg=>have hB:=Or.inr (Or.inr (ZpC h1 h2 hc hv hg));⟨rfl,hn g hB,fun _=>hF g hB⟩).map (Wl _)).map (Jq _)⟩;have h6:Zr (Xd Γ w I) (cs.map (ZH ((WP (.box cs)).filter fun i=>!ids.contains i))) cur.toList:=h5.map_left fun _ _ h=>Zf0 h;refine Za0 (Zcn fun ae aa=>?_) (Uy hI) h6;obtain⟨y,hy,aa⟩:=Kr.1 aa;obtain⟨x,hx,rfl⟩:=KQ.1 hy;obtain⟨h7,h8⟩:=Zd7 _ x ae aa;have h9:ae∈WP (.box cs):=Kr.2 ⟨x,hx,h7⟩
  simp only[Lk,KH,KP,KL,not_and,Decidable.not_not] at h8;exact h8 h9
 | row sz xs ex fz=>
  obtain⟨ad,n,c,h1,h2,h3⟩:=ho;refine⟨ad,n,c,by rw[Ym hk,h1],h2,?_⟩;rcases h3 with h3 | ⟨g,q0,cur,e,rfl,hc,hw,h4,h5,h6,h7,h8,ag,h9⟩
  ·exact .inl h3
  ·have hb:Blk Γ w id (.row sz xs ex fz) g:=.inl (by rw[h1];simp[Zq,Ky hc]);refine .inr ⟨g,q0,cur,e,rfl,hc,hw,h4,h5,h6,h7,?_,hF g hb,?_⟩
   ·cases fz
    ·simp at h8 ⊢;exact fun hi=>h8 (hn g hb hi)
    ·simp at h8 ⊢;exact hI g h8
   ·cases ex
    ·exact h9.mono' (Uy hI) rfl
    ·simp only[Kg] at h9 ⊢;exact h9.mono' ⟨fun b hb=>⟨hI b hb.1,hA b hb.1 hb.2⟩,fun _ _=>rfl⟩ rfl
end
end Go.Abs
