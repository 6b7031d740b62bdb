/- Own text. -/
import Derived.Test.YtefabmohhbhlfaaAbsStep8
set_option linter.unusedVariables false
set_option linter.unusedSimpArgs false
namespace Go.Abs
open Go
section
variable {Γ Γ' : Gh} {w w' : World} {I I' : Nat→Prop}
def AV.small:AV→Bool
 | .d _=>false
 | .agg _=>false
 | .tup _=>false
 | .clo _ _=>false
 | _=>true
theorem Y3 {x:AV} (hs:x.small=true) (v:Value):(Rep Γ w I x v=XA Γ w I x v)∧(Wa Γ w I x v=XA Γ w I x v)∧(QT Γ w I x v=XA Γ w I x v):=by
 cases x<;>first | exact⟨rfl,rfl,rfl⟩ | cases hs
theorem Xo {x:AV} (hs:x.small=true) (g:Nat→Nat) (bad:List Nat) :
  ren g x=Zaf g x∧JR g x=Zaf g x∧kill bad x=ZT bad x∧ZF bad x=ZT bad x∧Zo x=Zf x∧Zr x=Zf x:=by
 cases x<;>first | exact⟨rfl,rfl,rfl,rfl,rfl,rfl⟩ | cases hs
def WP (Γ Γ' : Gh) (g:Nat→Nat) (ids:List Nat):Prop:=∀ id∈ids,∀ r,Γ id=some r→Γ' (g id)=some r
theorem Zc3 {g:Nat→Nat} {x:AV} {v:Value} (hg:WP Γ Γ' g (Zf x)) (hk:ZB I I' w w') (h:XA Γ w I x v):XA Γ' w' I' (Zaf g x) v:=by
 cases x with
 | d x=>exact⟨h.1,h.2.mono hk⟩
 | nil=>exact h
 | nilp=>exact h
 | nili=>exact h
 | ptr id off=>obtain⟨b,h1,h2⟩:=h;exact⟨b,hg id (by simp[Zf]) _ h1,h2⟩
 | prow id sz i off=>obtain⟨b,o,n,c,h1,h2⟩:=h;exact⟨b,o,n,c,hg id (by simp[Zf]) _ h1,h2⟩
 | pim cs=>obtain⟨b,o,vs,h1,h2,h3,h4⟩:=h;exact⟨b,o,vs,h1,hk.sub b h2,h3.mono (hk.blk b h2),h4.mono hk⟩
 | own id=>obtain⟨a,n,c,sz,h1,h2⟩:=h;exact⟨a,n,c,sz,hg id (by simp[Zf]) _ h1,h2⟩
 | ownv id off n=>obtain⟨a0,m,c,sz,a,h1,h2⟩:=h;exact⟨a0,m,c,sz,a,hg id (by simp[Zf]) _ h1,h2⟩
 | bnil id e=>obtain⟨b,h1,h2⟩:=h;exact⟨b,hg id (by simp[Zf]) _ h1,h2⟩
 | bbuf a b=>exact h
 | agg cs=>exact h.elim
 | tup cs=>exact h.elim
 | clo f cs=>exact h.elim
 | junk=>exact trivial
theorem Zc4 {g:Nat→Nat}:∀ {xs:List AV} {vs:List Value},WP Γ Γ' g (xs.flatMap Zf)→ZB I I' w w'→Zq (XA Γ w I) xs vs→Zq (XA Γ' w' I') (xs.map (Zaf g)) vs
 | [],[],_,_,_=>trivial
 | [],_ :: _,_,_,h=>h.elim
 | _ :: _,[],_,_,h=>h.elim
 | x :: xs,v :: vs,hg,hk,h=>⟨Zc3 (fun id aa=>hg id (by simp[aa])) hk h.1,Zc4 (fun id aa=>hg id (by simp only[KD,Kd];exact .inr aa)) hk h.2⟩
theorem Zqg {g:Nat→Nat} {x:AV} {v:Value} (hg:WP Γ Γ' g (Zr x)) (hk:ZB I I' w w') (h:QT Γ w I x v):QT Γ' w' I' (JR g x) v:=by
 by_cases hs:x.small=true
 ·rw[(Xo hs g []).2.2.2.2.2] at hg;rw[(Y3 hs v).2.2] at h;rw[(Xo hs g []).2.1];exact(Zc3 hg hk h).repB
 ·cases x with
  | clo f cs=>obtain⟨us,h1,h2⟩:=h;exact⟨us,h1,Zc4 hg hk h2⟩
  | agg cs=>exact h.elim
  | tup cs=>exact h.elim
  | d x=>exact⟨h.1,h.2.mono hk⟩
  | _=>exact absurd rfl hs
theorem Zgl {g:Nat→Nat} {x:AV} {v:Value} (hg:WP Γ Γ' g (Zr x)) (hk:ZB I I' w w') (h:Wa Γ w I x v):Wa Γ' w' I' (JR g x) v:=by
 by_cases hs:x.small=true
 ·rw[(Xo hs g []).2.2.2.2.2] at hg;rw[(Y3 hs v).2.1] at h;rw[(Xo hs g []).2.1];exact(Zc3 hg hk h).rep2
 ·cases x with
  | clo f cs=>obtain⟨us,h1,h2⟩:=h;exact⟨us,h1,Zc4 hg hk h2⟩
  | agg cs=>obtain⟨us,h1,h2⟩:=h;exact⟨us,h1,Zc4 hg hk h2⟩
  | tup cs=>exact h.elim
  | d x=>exact ZkR.2 ((ZkR.1 h).mono hk)
  | _=>exact absurd rfl hs
theorem Zjf {g:Nat→Nat}:∀ {xs:List AV} {vs:List Value},WP Γ Γ' g (xs.flatMap Zr)→ZB I I' w w'→Zq (Wa Γ w I) xs vs→Zq (Wa Γ' w' I') (xs.map (JR g)) vs
 | [],[],_,_,_=>trivial
 | [],_ :: _,_,_,h=>h.elim
 | _ :: _,[],_,_,h=>h.elim
 | x :: xs,v :: vs,hg,hk,h=>⟨Zgl (fun id aa=>hg id (by simp only[KD,Kd];exact .inl aa)) hk h.1,Zjf (fun id aa=>hg id (by simp only[KD,Kd];exact .inr aa)) hk h.2⟩
theorem JS {g:Nat→Nat}:∀ {xs:List AV} {vs:List Value},WP Γ Γ' g (xs.flatMap Zr)→ZB I I' w w'→Zq (QT Γ w I) xs vs→Zq (QT Γ' w' I') (xs.map (JR g)) vs
 | [],[],_,_,_=>trivial
 | [],_ :: _,_,_,h=>h.elim
 | _ :: _,[],_,_,h=>h.elim
 | x :: xs,v :: vs,hg,hk,h=>⟨Zqg (fun id aa=>hg id (by simp only[KD,Kd];exact .inl aa)) hk h.1,JS (fun id aa=>hg id (by simp only[KD,Kd];exact .inr aa)) hk h.2⟩
theorem Zf4 {g:Nat→Nat} {x:AV} {v:Value} (hg:WP Γ Γ' g (Zo x)) (hk:ZB I I' w w') (h:Rep Γ w I x v):Rep Γ' w' I' (ren g x) v:=by
 by_cases hs:x.small=true
 ·rw[(Xo hs g []).2.2.2.2.1] at hg;rw[(Y3 hs v).1] at h;rw[(Xo hs g []).1];exact(Zc3 hg hk h).rep2.rep
 ·cases x with
  | tup vs=>obtain⟨us,h1,h2⟩:=h;exact⟨us,h1,Zjf hg hk h2⟩
  | clo f cs=>exact Zgl (g:=g) (x:=.clo f cs) hg hk h
  | agg cs=>exact Zgl (g:=g) (x:=.agg cs) hg hk h
  | d x=>exact QE.2 ((QE.1 h).mono hk)
  | _=>exact absurd rfl hs
theorem ZbO {bad:List Nat} {x:AV} {v:Value} (h:XA Γ w I x v):XA Γ w I (ZT bad x) v:=by
 cases x<;>simp only[ZT]<;>first | exact h | (split<;>first | exact trivial | exact h)
theorem Zeg {bad:List Nat} {xs:List AV} {vs:List Value} (h:Zq (XA Γ w I) xs vs):Zq (XA Γ w I) (xs.map (ZT bad)) vs:=h.map_left fun _ _ h=>ZbO h
theorem Zeh {bad:List Nat} {x:AV} {v:Value} (h:QT Γ w I x v):QT Γ w I (ZF bad x) v:=by
 by_cases hs:x.small=true
 ·rw[(Y3 hs v).2.2] at h;rw[(Xo hs id bad).2.2.2.1];exact(ZbO h).repB
 ·cases x with
  | clo f cs=>obtain⟨us,h1,h2⟩:=h;exact⟨us,h1,Zeg h2⟩
  | agg cs=>exact h.elim
  | tup cs=>exact h.elim
  | d x=>exact h
  | _=>exact absurd rfl hs
theorem Zei {bad:List Nat} {x:AV} {v:Value} (h:Wa Γ w I x v):Wa Γ w I (ZF bad x) v:=by
 by_cases hs:x.small=true
 ·rw[(Y3 hs v).2.1] at h;rw[(Xo hs id bad).2.2.2.1];exact(ZbO h).rep2
 ·cases x with
  | clo f cs=>obtain⟨us,h1,h2⟩:=h;exact⟨us,h1,Zeg h2⟩
  | agg cs=>obtain⟨us,h1,h2⟩:=h;exact⟨us,h1,Zeg h2⟩
  | tup cs=>exact h.elim
  | d x=>exact h
  | _=>exact absurd rfl hs
theorem Zlr {bad:List Nat} {x:AV} {v:Value} (h:Rep Γ w I x v):Rep Γ w I (kill bad x) v:=by
 by_cases hs:x.small=true
 ·rw[(Y3 hs v).1] at h;rw[(Xo hs id bad).2.2.1];exact(ZbO h).rep2.rep
 ·cases x with
  | tup vs=>obtain⟨us,h1,h2⟩:=h;exact⟨us,h1,h2.map_left fun _ _ h=>Zei h⟩
  | clo f cs=>exact(Zei (bad:=bad) (x:=.clo f cs) h).rep
  | agg cs=>exact(Zei (bad:=bad) (x:=.agg cs) h).rep
  | d x=>exact h
  | _=>exact absurd rfl hs
theorem ZcA (bad:List Nat) (x:AV):∀ id∈Zf (ZT bad x),id∈Zf x∧id∉bad:=by
 intro id aa;cases x<;>simp only[ZT] at aa<;>first
  | (simp[Zf] at aa;done)
  | (split at aa
     ·simp [Zf] at aa
     ·rename_i hb;simp[Zf] at aa hb ⊢;first | (subst aa;simpa using hb) | (rcases aa with rfl | rfl<;>simp[hb]))
theorem Zag (bad:List Nat) (xs:List AV):∀ id∈(xs.map (ZT bad)).flatMap Zf,id∈xs.flatMap Zf∧id∉bad:=by
 intro id aa;obtain⟨y,hy,aa⟩:=Ks.1 aa;obtain⟨x,hx,rfl⟩:=KV.1 hy;obtain⟨h1,h2⟩:=ZcA bad x id aa;exact⟨Ks.2 ⟨x,hx,h1⟩,h2⟩
theorem ZcB (bad:List Nat) (x:AV):∀ id∈Zr (ZF bad x),id∈Zr x∧id∉bad:=by
 intro id aa;by_cases hs:x.small=true
 ·rw[(Xo hs (fun k=>k) bad).2.2.2.1] at aa;have ab : Zr (ZT bad x)=Zf (ZT bad x):=by
   cases x<;>simp only[ZT]<;>first | rfl | (split<;>rfl) | (cases hs)
  rw[ab] at aa;rw[(Xo hs (fun k=>k) bad).2.2.2.2.2];exact ZcA bad x id aa
 ·cases x with
  | agg cs=>exact Zag bad cs id aa
  | clo f cs=>exact Zag bad cs id aa
  | tup cs=>simp[ZF,ZT,Zr,Zf] at aa
  | d x=>simp[ZF,ZT,Zr,Zf] at aa
  | _=>exact absurd rfl hs
theorem Zjg (bad:List Nat) (x:AV):∀ id∈Zo (kill bad x),id∈Zo x∧id∉bad:=by
 intro id aa;by_cases hs:x.small=true
 ·rw[(Xo hs (fun k=>k) bad).2.2.1] at aa;have ab : Zo (ZT bad x)=Zf (ZT bad x):=by
   cases x<;>simp only[ZT]<;>first | rfl | (split<;>rfl) | (cases hs)
  rw[ab] at aa;rw[(Xo hs (fun k=>k) bad).2.2.2.2.1];exact ZcA bad x id aa
 ·cases x with
  | tup vs=>
   obtain⟨y,hy,aa⟩:=Ks.1 aa;obtain⟨x,hx,rfl⟩:=KV.1 hy;obtain⟨h1,h2⟩:=ZcB bad x id aa;exact⟨Ks.2 ⟨x,hx,h1⟩,h2⟩
  | agg cs=>exact Zag bad cs id aa
  | clo f cs=>exact Zag bad cs id aa
  | d x=>simp[kill,ZF,ZT,Zo,Zr,Zf] at aa
  | _=>exact absurd rfl hs
end
theorem VY (hp:Hp):∀ (n:Nat) (todo aa:List Nat),aa.Nodup→(Qv hp n todo aa).Nodup∧(∀ id∈aa,id∈Qv hp n todo aa)∧(∀ id∈Qv hp n todo aa,id∈aa∨∃ o,lkp hp id=some o)
 | 0,todo,aa,h=>by simp only[Qv];exact⟨h,fun _ h=>h,fun _ h=>.inl h⟩
 | n+1,[],aa,h=>by simp only[Qv];exact⟨h,fun _ h=>h,fun _ h=>.inl h⟩
 | n+1,id :: todo,aa,h=>by
  simp only[Qv];split
  ·exact VY hp n todo aa h
  ·rename_i hc;cases hl:lkp hp id with
   | none=>simp only[V7];exact VY hp n todo aa h
   | some o=>
    simp only[V7];have ab:(aa++[id]).Nodup:=by
     rw[LJ];refine⟨h,by simp,?_⟩;intro a ha b hb;simp at hb;subst hb;intro e;subst e;simp at hc;exact hc ha
    obtain⟨h1,h2,h3⟩:=VY hp n (todo++VV o) (aa++[id]) ab;refine⟨h1,fun x hx=>h2 x (by simp[hx]),fun x hx=>?_⟩;rcases h3 x hx with h4 | h4
    ·simp at h4;rcases h4 with h4 | rfl
     ·exact .inl h4
     ·exact .inr ⟨o,hl⟩
    ·exact .inr h4
theorem Zc5:∀ {ids:List Nat} {id:Nat},id∈ids→Yu ids id<ids.length∧ids[Yu ids id]?=some id
 | [],_,h=>by simp at h
 | x :: r,id,h=>by
  simp only[Yu];split
  ·rename_i e;subst e;simp
  ·rename_i e;rcases Kf.1 h with h | h
   ·exact absurd h.symm e
   ·obtain⟨h1,h2⟩:=Zc5 h;exact⟨by simp;omega,by simpa using h2⟩
theorem ZbP:∀ {ids:List Nat},ids.Nodup→∀ {k id:Nat},ids[k]?=some id→Yu ids id=k
 | [],_,k,id,h=>by simp at h
 | x :: r,hn,k,id,h=>by
  rw[Ld] at hn;cases k with
  | zero=>simp at h;subst h;simp[Yu]
  | succ k=>
   simp at h;have aa:x≠id:=fun e=>hn.1 (e ▸ Ke h);simp only[Yu,Kn aa,ZbP hn.2 h]
def Zo3 {α:Type} (b:Option α):Option α→Option α
 | some v=>some v
 | none=>b
theorem Zc6 {α:Type}:∀ (l:List (Nat×α)) (k:Nat) (v:α) (t:Nat),lkp (l++[(k,v)]) t=Zo3 (if k=t then some v else none) (lkp l t)
 | [],k,v,t=>by simp[lkp,Zo3]
 | (j,x) :: l,k,v,t=>by
  by_cases h:j=t
  ·simp[lkp,h,Zo3]
  ·simp[lkp,h,Zc6 l k v t]
theorem VZ:∀ (l:List Zh) (k i:Nat),lkp (YL k l) i=if k≤i then l[i-k]? else none
 | [],k,i=>by simp[YL,lkp]
 | o :: r,k,i=>by
  simp only[YL,Zc6,VZ r];by_cases h1:k=i
  ·subst h1;simp[Zo3,Nat.not_succ_le_self]
  ·by_cases h2:k≤i
   ·rw[Kn h1,Ko (by omega),Ko h2];have:i-k=(i-(k+1))+1:=by omega
    rw[this];simp;cases r[i-(k+1)]? <;> rfl
   ·rw[Kn h1,Kn (by omega),Kn h2];rfl
theorem Zgm (hp:Hp):∀ (ids:List Nat) (k:Nat),(JB hp ids)[k]?=(ids[k]?).map fun id=>Zl2 (lkp hp id)
 | [],k=>by simp[JB]
 | id :: r,0=>by simp[JB]
 | id :: r,k+1=>by simp[JB,Zgm hp r k]
end Go.Abs
set_option linter.unusedVariables false
set_option linter.unusedSimpArgs false
namespace Go.Abs
open Go
structure Pre (F A I:Nat→Prop) (Γ:Gh) (h:List Zh) (as:List AV) (args:List Value) (w:World):Prop where
 args:Zq (Rep Γ w I) as args
 objs:Wz Γ w I F A (YL 0 h)
 inj:∀ i j o o' b,lkp (YL 0 h) i=some o→lkp (YL 0 h) j=some o'→Blk Γ w i o b→Blk Γ w j o' b→i=j
 bound:∀ b,I b→b<w.heap.size
 fresh:∀ b,w.heap.size≤b→F b
 own:∀ b,F b→A b
 names:∀ id,h.length≤id→Γ id=none
 glob:ZeB I w
structure Back (F A I:Nat→Prop) (Γ:Gh) (w:World) (hs:List Zh) (res:AV) (I' : Nat→Prop) (Γ' : Gh) (v:Value) (w' : World):Prop where
 heads:ZY Γ Γ'
 keeps:ZB I I' w w'
 sub:∀ b,I' b→I b∨F b
 fr:Fr F w w'
 res:Rep Γ' w' I' res v
 objs:Wz Γ' w' I' F A (YL 0 hs)
 inj:∀ i j o o' b,lkp (YL 0 hs) i=some o→lkp (YL 0 hs) j=some o'→Blk Γ' w' i o b→Blk Γ' w' j o' b→i=j
 bound:∀ b,I' b→b<w'.heap.size
 names:∀ id,hs.length≤id→Γ' id=none
def Enters (P:Program) (f:FuncId):Prop:=∃ fn,P.funcs[f]?=some fn∧(fn.name == "runtime.NumGoroutine")=false∧fn.body.isNone=false
def Zgn (P:Program) (f:FuncId) (as:List AV) (h:List Zh) (res:AV) (hs:List Zh):Prop:=
 Enters P f∧∀ (F A I:Nat→Prop) (Γ:Gh) (args:List Value) (w:World),Pre F A I Γ h as args w→Calls P f args.toArray w fun e w'=>∃ v I' Γ',e=.returned v∧Back F A I Γ w hs res I' Γ' v w'
def Qh (P:Program) (C:Orc):Prop:=∀ f as h res hs,C f as h=some (res,hs)→Zgn P f as h res hs
section
variable {P:Program} {nt:Nat} {U:Nat→Prop} {F A I:Nat→Prop} {Γ:Gh} {sl:Sl} {hp:Hp} {a:Act} {w:World}
def Zls (P:Program) (nt:Nat) (F A I:Nat→Prop) (Γ:Gh) (U:Nat→Prop) (sl:Sl) (hp:Hp) (a:Act) (w:World) (o:Oper) (base:Nat) (ce:Zb):Prop:=
 ∀ (K:Act→World→Prop) (Q:Exit→Act→World→Prop),(∀ u w',X9 nt F A I Γ w (Wb U base) (ce.on o.dst sl hp).1 (ce.on o.dst sl hp).2 (a.put o.dst u) w'→K (a.put o.dst u) w')→o.wp P a w K Q
theorem JJ.opWp {o:Oper} {base:Nat} {ce:Zb} (h:JJ P nt F A I Γ U sl hp a w o base ce):Zls P nt F A I Γ U sl hp a w o base ce:=by
 intro K Q hK;obtain⟨u,w',h1,h2⟩:=h;exact h1.wp (hK u w' h2)
def ZiJ (Γ:Gh) (w:World) (hp:Hp) (I' : Nat→Prop) (ids:List Nat):Prop:=∀ id∈ids,∀ o b,lkp hp id=some o→Zbj (some o)=true→Blk Γ w id o b→I' b
theorem ZiJ.sub {I' : Nat→Prop} {ids aa : List Nat} (h:ZiJ Γ w hp I' ids) (hs:∀ id∈aa,id∈ids):ZiJ Γ w hp I' aa:=fun id ab=>h id (hs id ab)
theorem ZmV (h:Wz Γ w I F A hp) (ids:List Nat):ZiJ Γ w hp (Zbx Γ w hp I ids) ids:=by
 intro id aa o b hl hr hb;cases o with
 | box cs=>cases hr
 | gone=>exact hb.isGone.elim
 | tree sz ns xs lk=>exact .inr ⟨id,aa,_,hl,rfl,hb⟩
 | row sz xs ex fz=>
  cases fz with
  | false=>exact .inr ⟨id,aa,_,hl,rfl,hb⟩
  | true=>
   have hb:=hb.row;obtain⟨ad,n,c,h1,h2,h3⟩:=h id _ hl;rw[h1] at hb;obtain⟨ae,rfl,rfl,hc⟩:=ZjV hb;rcases h3 with h3 | ⟨g,q0,cur,e,hg,h4,h5,h6,h7,h8,h9,ab,af⟩
   ·exact absurd h3.2 hc
   ·cases hg;exact .inl (by simpa using ab)
theorem Zlt (h:Wz Γ w I F A hp) {I' : Nat→Prop} (hI:∀ b,I b→I' b) {id:Nat} (aa:ZiJ Γ w hp I' [id]) {xs:List D} (he:VU (lkp hp id)=some xs) :
  ∃ ad n c sz,Γ id=some (.row ad n c sz)∧n=xs.length∧n≤c∧((n=0∧c=0)∨∃ g q,ad=some ⟨g,q,none⟩∧I' g∧0<sz∧Vf w I' g sz xs q):=by
 unfold VU at he;split at he
 ·rename_i sz af ex fz hl;cases he;obtain⟨ad,n,c,h1,h2,h3⟩:=h id _ hl;refine⟨ad,n,c,sz,h1,h2,?_⟩;rcases h3 with h3 | ⟨g,q0,cur,e,rfl,hc,hw,h4,h5,h6,h7,h8,hF,h9⟩
  ·exact⟨by omega,.inl h3⟩
  ·refine⟨h4,.inr ⟨g,q0,rfl,aa id (by simp) _ g hl rfl (.inl (by rw[h1];simp[Zp,Ku hc])),h7,?_⟩⟩;cases ex
   ·exact h9.mono' (WJ hI) rfl
   ·exact h9.mono' ⟨fun b hb=>hI b hb.1,fun _ _=>rfl⟩ rfl
 ·rename_i sz ns af hl;cases he;obtain⟨ad,n,c,h1,⟨h2,h3⟩,_⟩:=h id _ hl;refine⟨ad,n,c,sz,h1,h2,?_⟩;rcases h3 with h3 | ⟨g,cur,e,B,rfl,hc,hw,h4,h5,h6,ab,h8,h9,ag⟩
  ·exact⟨by omega,.inl ⟨h3.1,h3.2.1⟩⟩
  ·have ae:Zp (Γ id)=some g:=by rw[h1];simp[Zp,Ku hc]
   exact⟨h4,.inr ⟨g,0,rfl,aa id (by simp) _ g hl rfl (.inl ae),ab,h8.rep fun b hb=>aa id (by simp) _ b hl rfl (.inr (.inl ⟨g,B,ae,h8,hb⟩))⟩⟩
 ·cases he
theorem Zkk (h:Wz Γ w I F A hp) {I' : Nat→Prop} (hI:∀ b,I b→I' b) {x:AV} {v:Value} (hx:Rep Γ w I x v) (aa:ZiJ Γ w hp I' (Jh x)) {d:D} (hd:Zcd hp x=some d):QZ w I' d v:=by
 unfold Zcd at hd;split at hd
 ·cases hd;exact(QE.1 hx).mono (WJ hI)
 ·cases hd;obtain⟨ad,rfl⟩:=hx;exact⟨ad,0,rfl,by simp,.inl rfl⟩
 ·rename_i id;obtain⟨xs,h1,hd⟩:=Za hd;cases hd;obtain⟨ad,n,c,sz,h2,h3,h4,h5⟩:=Zlt h hI aa h1;obtain⟨aj,n',c',af,h6,rfl⟩:=hx;rw[h2] at h6;cases h6;refine⟨ad,c,by rw[h3],by omega,?_⟩;rcases h5 with h5 | ⟨g,q,rfl,h7,h8,h9⟩
  ·exact .inl (Km (by omega))
  ·exact .inr ⟨g,q,sz,rfl,h7,h8,h9⟩
 ·rename_i id off n;obtain⟨xs,h1,hd⟩:=Za hd;cases hd;obtain⟨ad,m,c,sz,h2,h3,h4,h5⟩:=Zlt h hI aa h1;obtain⟨a0,m',c',af,av,h6,h7,h8,rfl,h9,ab⟩:=hx;rw[h2] at h6;cases h6;have ae:n=((xs.drop off).take n).length:=by simp;omega
  refine⟨av,c-off,by rw[← ae],by omega,?_⟩;by_cases hn:n=0
  ·exact .inl (Km (by omega))
  ·rcases h5 with h5 | ⟨g,q,rfl,ag,ah,ai⟩
   ·omega
   ·rcases ab with ab | ab
    ·subst ab;exact .inr ⟨g,q+off*sz,sz,by simp[YH],ag,ah,ZbB ai off n⟩
    ·omega
 ·cases hd
theorem Zoc (h:Wz Γ w I F A hp) {I' : Nat→Prop} (hI:∀ b,I b→I' b):∀ {xs:List AV} {vs:List Value} {ds:List D},Zq (XA Γ w I) xs vs→ZiJ Γ w hp I' (xs.flatMap Jh)→Qb (Zcd hp) xs=some ds→Wr D.one ds=true→Qu w I' ds vs
 | [],[],ds,_,_,hd,_=>by simp only[Qb] at hd;cases hd;simp[Qu]
 | [],_ :: _,_,h,_,_,_=>h.elim
 | _ :: _,[],_,h,_,_,_=>h.elim
 | x :: xs,v :: vs,ds,hr,hl,hd,h1=>by
  simp only[Qb] at hd;obtain⟨d,h2,hd⟩:=Za hd;obtain⟨ab,h3,hd⟩:=Za hd;cases hd;simp only[Wr,Kb] at h1;refine⟨v,vs,rfl,h1.1,(QZ.one h1.1).1 (Zkk h hI hr.1.rep2.rep (hl.sub fun id aa=>by simp only[KD,Kd];exact .inl aa) h2),Zoc h hI hr.2 (hl.sub fun id aa=>by simp only[KD,Kd];exact .inr aa) h3 h1.2⟩
theorem ZmW (h:Wz Γ w I F A hp) {I' : Nat→Prop} (hI:∀ b,I b→I' b) {x:AV} {v:Value} (hx:Rep Γ w I x v) (aa:ZiJ Γ w hp I' (Zae x)) {d:D} (hd:toD hp x=some d):QZ w I' d v:=by
 unfold toD at hd;split at hd
 ·rename_i cs;obtain⟨ds,h1,hd⟩:=Za hd;split at hd
  ·rename_i h2;cases hd;obtain⟨vs,rfl,h3⟩:=hx;exact⟨vs,rfl,Zoc h hI h3 aa h1 h2⟩
  ·cases hd
 ·rename_i ab;refine Zkk h hI hx ?_ hd;cases x<;>first | exact aa | (exact absurd rfl (ab _))
def Zod (x y:AV):List Nat:=match y with
 | .d _=>Zae x
 | _=>[]
theorem ZrC (h:Wz Γ w I F A hp) {I' : Nat→Prop} (hI:∀ b,I b→I' b) {m:Bool} {x y:AV} {v:Value} (hx:Rep Γ w I x v) (ha:Je hp m x=some y) (aa:ZiJ Γ w hp I' (Zod x y)):Rep Γ w I' y v:=by
 have keep:Rep Γ w I' x v:=hx.mono (ZY.refl Γ) (WJ hI);unfold Je at ha;split at ha
 ·cases ha;exact keep
 ·cases ha;exact keep
 ·cases ha;exact keep
 ·cases ha;exact keep
 ·cases ha;exact keep
 ·rename_i id;cases m
  ·simp only[Zao,asD] at ha;obtain⟨d,h1,ha⟩:=Za ha;cases ha;exact QE.2 (Zkk h hI hx aa h1)
  ·simp only[Zao] at ha;cases ha;exact keep
 ·cases m
  ·simp only[Zbi] at ha;cases ha;exact QE.2 (ZmW h hI hx aa rfl)
  ·simp only[Zbi] at ha;cases ha;exact keep
 ·cases ha;exact keep
 ·cases m
  ·simp only[Zap,asD] at ha;obtain⟨d,h1,ha⟩:=Za ha;cases ha;exact QE.2 (ZmW h hI hx aa h1)
  ·simp only[Zap] at ha;split at ha
   ·cases ha
   ·cases ha;exact keep
 ·obtain⟨d,h1,ha⟩:=Za ha;cases ha;exact QE.2 (ZmW h hI hx aa h1)
theorem Ze0 (x y:AV) (xs ys:List AV):Xz (x :: xs) (y :: ys)=Zod x y++Xz xs ys:=by
 cases y<;>simp[Xz,Zod]
theorem Zoe (h:Wz Γ w I F A hp) {I' : Nat→Prop} (hI:∀ b,I b→I' b) (m:Nat→Bool):∀ {xs ys:List AV} {vs:List Value} (i:Nat),Zq (Rep Γ w I) xs vs→args hp m i xs=some ys→ZiJ Γ w hp I' (Xz xs ys)→Zq (Rep Γ w I') ys vs
 | [],ys,[],i,_,ha,_=>by simp only[args] at ha;cases ha;exact trivial
 | [],_,_ :: _,_,h,_,_=>h.elim
 | _ :: _,_,[],_,h,_,_=>h.elim
 | x :: xs,ys,v :: vs,i,hr,ha,hl=>by
  simp only[args] at ha;obtain⟨y,h1,ha⟩:=Za ha;obtain⟨ab,h2,ha⟩:=Za ha;cases ha;rw[Ze0] at hl;exact⟨ZrC h hI hr.1 h1 (hl.sub fun id aa=>by simp[aa]),Zoe h hI m (i+1) hr.2 h2 (hl.sub fun id aa=>by simp[aa])⟩
def Za4 (ids:List Nat) (Γ:Gh):Gh:=fun k=>match ids[k]? with
 | some id=>Γ id
 | none=>none
theorem XX {ids:List Nat} {k id:Nat} (h:ids[k]?=some id):Za4 ids Γ k=Γ id:=by simp[Za4,h]
theorem Za5 {ids l:List Nat} (h:∀ id∈l,id∈ids):WP Γ (Za4 ids Γ) (Yu ids) l:=by
 intro id aa r hr;rw[XX (Zc5 (h id aa)).2];exact hr
theorem Ze1 {S S' : Nat→Prop} {b sz:Nat} {ys:List D} (hf:Wr D.flat ys=true) {o:Nat} (h:Vf w S b sz ys o):Vf w S' b sz ys o:=by
 rw[Xf] at h ⊢;intro i x hx;obtain⟨vs,h1,h2,h3⟩:=h i x hx;refine⟨vs,h1,h2,?_⟩;have aa : x.flat=true:=by
  clear h h1 h2 h3
  induction ys generalizing i with
  | nil=>simp at hx
  | cons y ys ih=>
   simp only[Wr,Kb] at hf;cases i with
   | zero=>simp at hx;subst hx;exact hf.1
   | succ i=>simp at hx;exact ih hf.2 i hx
 have one:∀ {y:D} {v:Value},y.plain=true→ZH w S y [v]→ZH w S' y [v]:=by
  intro y v hy hv;cases y<;>first | (simpa [ZH] using hv) | (simp[D.plain] at hy)
 have all:∀ (ds:List D) (us:List Value),Wr D.plain ds=true→Qu w S ds us→Qu w S' ds us:=by
  intro ds
  induction ds with
  | nil=>intro us _ h;simpa [Qu] using h
  | cons d ds ih=>
   intro us hp h;simp only[Wr,Kb] at hp;obtain⟨v,r,h1,h2,h3,h4⟩:=h;exact⟨v,r,h1,h2,one hp.1 h3,ih r hp.2 h4⟩
 have:=all x.cells vs aa h3.cells;exact ZiT (QG.1 this)
theorem Zdx.give {I' F' A' : Nat→Prop} {ad:Option Addr} {n c sz:Nat} {ys:List D} (h:Zdx w I F A ad n c sz ys true false) (hf:Wr D.flat ys=true)
  (hb:∀ b,Zp (some (.row ad n c sz))=some b→F b→F' b∧(I' b→I b)):Zdx w I' F' A' ad n c sz ys true false:=by
 obtain⟨h2,h3⟩:=h;refine⟨h2,?_⟩;rcases h3 with h3 | ⟨g,q0,cur,e,rfl,hc,hw,h4,h5,h6,h7,h8,aa,h9⟩
 ·exact .inl h3
 ·obtain⟨ab,ae⟩:=hb g (by simp[Zp,Ku hc]) aa;exact .inr ⟨g,q0,cur,e,rfl,hc,hw,h4,h5,h6,h7,by simp at h8 ⊢;exact fun hi=>h8 (ae hi),ab,Ze1 hf h9⟩
theorem Zlu {ids:List Nat} {id k:Nat} (hk:ids[k]?=some id) {o:Zh} (ho:XF Γ w I F A id o) {I' F' A' : Nat→Prop} (hI:∀ b,I b→I' b) (hF:∀ b,Blk Γ w id o b→F' b) (hA:∀ b,I b→A b→A' b)
  (hn:∀ b,Blk Γ w id o b→I' b→I b):XF (Za4 ids Γ) w I' F' A' k (W0 ids o):=by
 cases o with
 | gone=>
  obtain⟨r,hr⟩:=ho;exact⟨r,by rw[XX hk,hr]⟩
 | tree sz ns xs lk=>
  obtain⟨ad,n,c,h1,h2,h3⟩:=ho;refine⟨ad,n,c,by rw[XX hk,h1],?_,Xl.lose (Xl.kill (Γ':=Γ) h3 (fun _ _ _ h=>h) fun _ _=>rfl)⟩;rw[VM,VN];refine h2.mono fun b hb=>?_;rw[← h1] at hb;have ab : Blk Γ w id (.tree sz ns xs lk) b:=hb.elim .inl fun h=>.inr (.inl h);exact⟨rfl,hn b ab,fun _=>hF b ab⟩
 | box cs=>
  obtain⟨b,cur,e,h1,h2,h3,h4,h5,af⟩:=ho;have hb:Blk Γ w id (.box cs) b:=.inl (by rw[h1];rfl);refine⟨b,cur,e,by rw[XX hk,h1],h2,fun hi=>h3 (hn b hb hi),hF b hb,?_,((af.mono fun x te l u v g hc hv hg=>have hB:=Or.inr (Or.inr (ZnN h1 h2 hc hv hg));⟨rfl,hn g hB,fun _=>hF g hB⟩).map (VC _)).map (UB _)⟩;have h6:Zq (QT Γ w I) (cs.map (ZF ((VV (.box cs)).filter fun i=>!ids.contains i))) cur.toList:=h5.map_left fun _ _ h=>Zeh h;refine JS (Za5 fun ae aa=>?_) (WJ hI) h6;obtain⟨y,hy,aa⟩:=Ks.1 aa;obtain⟨x,hx,rfl⟩:=KV.1 hy;obtain⟨h7,h8⟩:=ZcB _ x ae aa;have h9:ae∈VV (.box cs):=Ks.2 ⟨x,hx,h7⟩
  simp only[Le,KO,KM,K0,not_and,Decidable.not_not] at h8;exact h8 h9
 | row sz xs ex fz=>
  obtain⟨ad,n,c,h1,h2,h3⟩:=ho;refine⟨ad,n,c,by rw[XX hk,h1],h2,?_⟩;rcases h3 with h3 | ⟨g,q0,cur,e,rfl,hc,hw,h4,h5,h6,h7,h8,ag,h9⟩
  ·exact .inl h3
  ·have hb:Blk Γ w id (.row sz xs ex fz) g:=.inl (by rw[h1];simp[Zp,Ku hc]);refine .inr ⟨g,q0,cur,e,rfl,hc,hw,h4,h5,h6,h7,?_,hF g hb,?_⟩
   ·cases fz
    ·simp at h8 ⊢;exact fun hi=>h8 (hn g hb hi)
    ·simp at h8 ⊢;exact hI g h8
   ·cases ex
    ·exact h9.mono' (WJ hI) rfl
    ·simp only[Kk] at h9 ⊢;exact h9.mono' ⟨fun b hb=>⟨hI b hb.1,hA b hb.1 hb.2⟩,fun _ _=>rfl⟩ rfl
end
end Go.Abs
