/- Own text. -/
import Derived.Test.YtighjmleicikhaaAbsStep8
set_option linter.unusedVariables false
set_option linter.unusedSimpArgs false
namespace Go.Abs
open Go
section
variable {Γ Γ' : Gh} {w w' : World} {I I' : Nat→Prop}
def AV.small:AV→Bool
 | .d _=>false
 | .agg _=>false
 | .tup _=>false
 | .clo _ _=>false
 | _=>true
theorem YJ {x:AV} (hs:x.small=true) (v:Value):(Rep Γ w I x v=Xy Γ w I x v)∧(VT Γ w I x v=Xy Γ w I x v)∧(QZ Γ w I x v=Xy Γ w I x v):=by
 cases x<;>first | exact⟨rfl,rfl,rfl⟩ | cases hs
theorem Xo {x:AV} (hs:x.small=true) (g:Nat→Nat) (bad:List Nat) :
  ren g x=J8 g x∧Jk g x=J8 g x∧kill bad x=ZM bad x∧Zz bad x=ZM bad x∧Zm x=Zf x∧Zo x=Zf x:=by
 cases x<;>first | exact⟨rfl,rfl,rfl,rfl,rfl,rfl⟩ | cases hs
def Ws (Γ Γ' : Gh) (g:Nat→Nat) (ids:List Nat):Prop:=∀ id∈ids,∀ r,Γ id=some r→Γ' (g id)=some r
theorem Zdh {g:Nat→Nat} {x:AV} {v:Value} (hg:Ws Γ Γ' g (Zf x)) (hk:ZB I I' w w') (h:Xy Γ w I x v):Xy Γ' w' I' (J8 g x) v:=by
 cases x with
 | d x=>exact⟨h.1,h.2.mono hk⟩
 | nil=>exact h
 | nilp=>exact h
 | nili=>exact h
 | ptr id off=>obtain⟨b,h1,h2⟩:=h;exact⟨b,hg id (by simp[Zf]) _ h1,h2⟩
 | prow id sz i off=>obtain⟨b,n,c,h1,h2⟩:=h;exact⟨b,n,c,hg id (by simp[Zf]) _ h1,h2⟩
 | pim cs=>obtain⟨b,o,vs,h1,h2,h3,h4⟩:=h;exact⟨b,o,vs,h1,hk.sub b h2,h3.mono (hk.blk b h2),h4.mono hk⟩
 | own id=>obtain⟨a,n,c,sz,h1,h2⟩:=h;exact⟨a,n,c,sz,hg id (by simp[Zf]) _ h1,h2⟩
 | ownv id off n=>obtain⟨a0,m,c,sz,a,h1,h2⟩:=h;exact⟨a0,m,c,sz,a,hg id (by simp[Zf]) _ h1,h2⟩
 | bnil id e=>obtain⟨b,h1,h2⟩:=h;exact⟨b,hg id (by simp[Zf]) _ h1,h2⟩
 | bbuf a b=>exact h
 | agg cs=>exact h.elim
 | tup cs=>exact h.elim
 | clo f cs=>exact h.elim
 | junk=>exact trivial
theorem Zdi {g:Nat→Nat}:∀ {xs:List AV} {vs:List Value},Ws Γ Γ' g (xs.flatMap Zf)→ZB I I' w w'→Zn (Xy Γ w I) xs vs→Zn (Xy Γ' w' I') (xs.map (J8 g)) vs
 | [],[],_,_,_=>trivial
 | [],_ :: _,_,_,h=>h.elim
 | _ :: _,[],_,_,h=>h.elim
 | x :: xs,v :: vs,hg,hk,h=>⟨Zdh (fun id aa=>hg id (by simp[aa])) hk h.1,Zdi (fun id aa=>hg id (by simp only[Kw,Kd];exact .inr aa)) hk h.2⟩
theorem ZpV {g:Nat→Nat} {x:AV} {v:Value} (hg:Ws Γ Γ' g (Zo x)) (hk:ZB I I' w w') (h:QZ Γ w I x v):QZ Γ' w' I' (Jk g x) v:=by
 by_cases hs:x.small=true
 ·rw[(Xo hs g []).2.2.2.2.2] at hg;rw[(YJ hs v).2.2] at h;rw[(Xo hs g []).2.1];exact(Zdh hg hk h).repB
 ·cases x with
  | clo f cs=>obtain⟨us,h1,h2⟩:=h;exact⟨us,h1,Zdi hg hk h2⟩
  | agg cs=>exact h.elim
  | tup cs=>exact h.elim
  | d x=>exact⟨h.1,h.2.mono hk⟩
  | _=>exact absurd rfl hs
theorem Zgp {g:Nat→Nat} {x:AV} {v:Value} (hg:Ws Γ Γ' g (Zo x)) (hk:ZB I I' w w') (h:VT Γ w I x v):VT Γ' w' I' (Jk g x) v:=by
 by_cases hs:x.small=true
 ·rw[(Xo hs g []).2.2.2.2.2] at hg;rw[(YJ hs v).2.1] at h;rw[(Xo hs g []).2.1];exact(Zdh hg hk h).rep2
 ·cases x with
  | clo f cs=>obtain⟨us,h1,h2⟩:=h;exact⟨us,h1,Zdi hg hk h2⟩
  | agg cs=>obtain⟨us,h1,h2⟩:=h;exact⟨us,h1,Zdi hg hk h2⟩
  | tup cs=>exact h.elim
  | d x=>exact Zkt.2 ((Zkt.1 h).mono hk)
  | _=>exact absurd rfl hs
theorem Ziy {g:Nat→Nat}:∀ {xs:List AV} {vs:List Value},Ws Γ Γ' g (xs.flatMap Zo)→ZB I I' w w'→Zn (VT Γ w I) xs vs→Zn (VT Γ' w' I') (xs.map (Jk g)) vs
 | [],[],_,_,_=>trivial
 | [],_ :: _,_,_,h=>h.elim
 | _ :: _,[],_,_,h=>h.elim
 | x :: xs,v :: vs,hg,hk,h=>⟨Zgp (fun id aa=>hg id (by simp only[Kw,Kd];exact .inl aa)) hk h.1,Ziy (fun id aa=>hg id (by simp only[Kw,Kd];exact .inr aa)) hk h.2⟩
theorem JD {g:Nat→Nat}:∀ {xs:List AV} {vs:List Value},Ws Γ Γ' g (xs.flatMap Zo)→ZB I I' w w'→Zn (QZ Γ w I) xs vs→Zn (QZ Γ' w' I') (xs.map (Jk g)) vs
 | [],[],_,_,_=>trivial
 | [],_ :: _,_,_,h=>h.elim
 | _ :: _,[],_,_,h=>h.elim
 | x :: xs,v :: vs,hg,hk,h=>⟨ZpV (fun id aa=>hg id (by simp only[Kw,Kd];exact .inl aa)) hk h.1,JD (fun id aa=>hg id (by simp only[Kw,Kd];exact .inr aa)) hk h.2⟩
theorem ZfC {g:Nat→Nat} {x:AV} {v:Value} (hg:Ws Γ Γ' g (Zm x)) (hk:ZB I I' w w') (h:Rep Γ w I x v):Rep Γ' w' I' (ren g x) v:=by
 by_cases hs:x.small=true
 ·rw[(Xo hs g []).2.2.2.2.1] at hg;rw[(YJ hs v).1] at h;rw[(Xo hs g []).1];exact(Zdh hg hk h).rep2.rep
 ·cases x with
  | tup vs=>obtain⟨us,h1,h2⟩:=h;exact⟨us,h1,Ziy hg hk h2⟩
  | clo f cs=>exact Zgp (g:=g) (x:=.clo f cs) hg hk h
  | agg cs=>exact Zgp (g:=g) (x:=.agg cs) hg hk h
  | d x=>exact QQ.2 ((QQ.1 h).mono hk)
  | _=>exact absurd rfl hs
theorem ZbG {bad:List Nat} {x:AV} {v:Value} (h:Xy Γ w I x v):Xy Γ w I (ZM bad x) v:=by
 cases x<;>simp only[ZM]<;>first | exact h | (split<;>first | exact trivial | exact h)
theorem Zeh {bad:List Nat} {xs:List AV} {vs:List Value} (h:Zn (Xy Γ w I) xs vs):Zn (Xy Γ w I) (xs.map (ZM bad)) vs:=h.map_left fun _ _ h=>ZbG h
theorem Zei {bad:List Nat} {x:AV} {v:Value} (h:QZ Γ w I x v):QZ Γ w I (Zz bad x) v:=by
 by_cases hs:x.small=true
 ·rw[(YJ hs v).2.2] at h;rw[(Xo hs id bad).2.2.2.1];exact(ZbG h).repB
 ·cases x with
  | clo f cs=>obtain⟨us,h1,h2⟩:=h;exact⟨us,h1,Zeh h2⟩
  | agg cs=>exact h.elim
  | tup cs=>exact h.elim
  | d x=>exact h
  | _=>exact absurd rfl hs
theorem Zej {bad:List Nat} {x:AV} {v:Value} (h:VT Γ w I x v):VT Γ w I (Zz bad x) v:=by
 by_cases hs:x.small=true
 ·rw[(YJ hs v).2.1] at h;rw[(Xo hs id bad).2.2.2.1];exact(ZbG h).rep2
 ·cases x with
  | clo f cs=>obtain⟨us,h1,h2⟩:=h;exact⟨us,h1,Zeh h2⟩
  | agg cs=>obtain⟨us,h1,h2⟩:=h;exact⟨us,h1,Zeh h2⟩
  | tup cs=>exact h.elim
  | d x=>exact h
  | _=>exact absurd rfl hs
theorem Zld {bad:List Nat} {x:AV} {v:Value} (h:Rep Γ w I x v):Rep Γ w I (kill bad x) v:=by
 by_cases hs:x.small=true
 ·rw[(YJ hs v).1] at h;rw[(Xo hs id bad).2.2.1];exact(ZbG h).rep2.rep
 ·cases x with
  | tup vs=>obtain⟨us,h1,h2⟩:=h;exact⟨us,h1,h2.map_left fun _ _ h=>Zej h⟩
  | clo f cs=>exact(Zej (bad:=bad) (x:=.clo f cs) h).rep
  | agg cs=>exact(Zej (bad:=bad) (x:=.agg cs) h).rep
  | d x=>exact h
  | _=>exact absurd rfl hs
theorem ZcJ (bad:List Nat) (x:AV):∀ id∈Zf (ZM bad x),id∈Zf x∧id∉bad:=by
 intro id aa;cases x<;>simp only[ZM] at aa<;>first
  | (simp[Zf] at aa;done)
  | (split at aa
     ·simp [Zf] at aa
     ·rename_i hb;simp[Zf] at aa hb ⊢;first | (subst aa;simpa using hb) | (rcases aa with rfl | rfl<;>simp[hb]))
theorem J9 (bad:List Nat) (xs:List AV):∀ id∈(xs.map (ZM bad)).flatMap Zf,id∈xs.flatMap Zf∧id∉bad:=by
 intro id aa;obtain⟨y,hy,aa⟩:=Kl.1 aa;obtain⟨x,hx,rfl⟩:=K7.1 hy;obtain⟨h1,h2⟩:=ZcJ bad x id aa;exact⟨Kl.2 ⟨x,hx,h1⟩,h2⟩
theorem ZcK (bad:List Nat) (x:AV):∀ id∈Zo (Zz bad x),id∈Zo x∧id∉bad:=by
 intro id aa;by_cases hs:x.small=true
 ·rw[(Xo hs (fun k=>k) bad).2.2.2.1] at aa;have ab : Zo (ZM bad x)=Zf (ZM bad x):=by
   cases x<;>simp only[ZM]<;>first | rfl | (split<;>rfl) | (cases hs)
  rw[ab] at aa;rw[(Xo hs (fun k=>k) bad).2.2.2.2.2];exact ZcJ bad x id aa
 ·cases x with
  | agg cs=>exact J9 bad cs id aa
  | clo f cs=>exact J9 bad cs id aa
  | tup cs=>simp[Zz,ZM,Zo,Zf] at aa
  | d x=>simp[Zz,ZM,Zo,Zf] at aa
  | _=>exact absurd rfl hs
theorem Ziz (bad:List Nat) (x:AV):∀ id∈Zm (kill bad x),id∈Zm x∧id∉bad:=by
 intro id aa;by_cases hs:x.small=true
 ·rw[(Xo hs (fun k=>k) bad).2.2.1] at aa;have ab : Zm (ZM bad x)=Zf (ZM bad x):=by
   cases x<;>simp only[ZM]<;>first | rfl | (split<;>rfl) | (cases hs)
  rw[ab] at aa;rw[(Xo hs (fun k=>k) bad).2.2.2.2.1];exact ZcJ bad x id aa
 ·cases x with
  | tup vs=>
   obtain⟨y,hy,aa⟩:=Kl.1 aa;obtain⟨x,hx,rfl⟩:=K7.1 hy;obtain⟨h1,h2⟩:=ZcK bad x id aa;exact⟨Kl.2 ⟨x,hx,h1⟩,h2⟩
  | agg cs=>exact J9 bad cs id aa
  | clo f cs=>exact J9 bad cs id aa
  | d x=>simp[kill,Zz,ZM,Zm,Zo,Zf] at aa
  | _=>exact absurd rfl hs
end
theorem VI (hp:Hp):∀ (n:Nat) (todo aa:List Nat),aa.Nodup→(Qw hp n todo aa).Nodup∧(∀ id∈aa,id∈Qw hp n todo aa)∧(∀ id∈Qw hp n todo aa,id∈aa∨∃ o,lkp hp id=some o)
 | 0,todo,aa,h=>by simp only[Qw];exact⟨h,fun _ h=>h,fun _ h=>.inl h⟩
 | n+1,[],aa,h=>by simp only[Qw];exact⟨h,fun _ h=>h,fun _ h=>.inl h⟩
 | n+1,id :: todo,aa,h=>by
  simp only[Qw];split
  ·exact VI hp n todo aa h
  ·rename_i hc;cases hl:lkp hp id with
   | none=>simp only[VR];exact VI hp n todo aa h
   | some o=>
    simp only[VR];have ab:(aa++[id]).Nodup:=by
     rw[Lz];refine⟨h,by simp,?_⟩;intro a ha b hb;simp at hb;subst hb;intro e;subst e;simp at hc;exact hc ha
    obtain⟨h1,h2,h3⟩:=VI hp n (todo++VH o) (aa++[id]) ab;refine⟨h1,fun x hx=>h2 x (by simp[hx]),fun x hx=>?_⟩;rcases h3 x hx with h4 | h4
    ·simp at h4;rcases h4 with h4 | rfl
     ·exact .inl h4
     ·exact .inr ⟨o,hl⟩
    ·exact .inr h4
theorem Zdj:∀ {ids:List Nat} {id:Nat},id∈ids→X9 ids id<ids.length∧ids[X9 ids id]?=some id
 | [],_,h=>by simp at h
 | x :: r,id,h=>by
  simp only[X9];split
  ·rename_i e;subst e;simp
  ·rename_i e;rcases Ke.1 h with h | h
   ·exact absurd h.symm e
   ·obtain⟨h1,h2⟩:=Zdj h;exact⟨by simp;omega,by simpa using h2⟩
theorem ZbH:∀ {ids:List Nat},ids.Nodup→∀ {k id:Nat},ids[k]?=some id→X9 ids id=k
 | [],_,k,id,h=>by simp at h
 | x :: r,hn,k,id,h=>by
  rw[K2] at hn;cases k with
  | zero=>simp at h;subst h;simp[X9]
  | succ k=>
   simp at h;have aa:x≠id:=fun e=>hn.1 (e ▸ Kr h);simp only[X9,Kp aa,ZbH hn.2 h]
def Zos {α:Type} (b:Option α):Option α→Option α
 | some v=>some v
 | none=>b
theorem Zdk {α:Type}:∀ (l:List (Nat×α)) (k:Nat) (v:α) (t:Nat),lkp (l++[(k,v)]) t=Zos (if k=t then some v else none) (lkp l t)
 | [],k,v,t=>by simp[lkp,Zos]
 | (j,x) :: l,k,v,t=>by
  by_cases h:j=t
  ·simp[lkp,h,Zos]
  ·simp[lkp,h,Zdk l k v t]
theorem VJ:∀ (l:List Zh) (k i:Nat),lkp (Yz k l) i=if k≤i then l[i-k]? else none
 | [],k,i=>by simp[Yz,lkp]
 | o :: r,k,i=>by
  simp only[Yz,Zdk,VJ r];by_cases h1:k=i
  ·subst h1;simp[Zos,Nat.not_succ_le_self]
  ·by_cases h2:k≤i
   ·rw[Kp h1,Ku (by omega),Ku h2];have:i-k=(i-(k+1))+1:=by omega
    rw[this];simp;cases r[i-(k+1)]? <;> rfl
   ·rw[Kp h1,Kp (by omega),Kp h2];rfl
theorem Zgq (hp:Hp):∀ (ids:List Nat) (k:Nat),(Jo hp ids)[k]?=(ids[k]?).map fun id=>ZlN (lkp hp id)
 | [],k=>by simp[Jo]
 | id :: r,0=>by simp[Jo]
 | id :: r,k+1=>by simp[Jo,Zgq hp r k]
end Go.Abs
set_option linter.unusedVariables false
set_option linter.unusedSimpArgs false
namespace Go.Abs
open Go
structure Pre (F A I:Nat→Prop) (Γ:Gh) (h:List Zh) (as:List AV) (args:List Value) (w:World):Prop where
 args:Zn (Rep Γ w I) as args
 objs:Wc Γ w I F A (Yz 0 h)
 inj:∀ i j o o' b,lkp (Yz 0 h) i=some o→lkp (Yz 0 h) j=some o'→Blk Γ w i o b→Blk Γ w j o' b→i=j
 bound:∀ b,I b→b<w.heap.size
 fresh:∀ b,w.heap.size≤b→F b
 own:∀ b,F b→A b
 names:∀ id,h.length≤id→Γ id=none
 glob:Zc0 I w
structure Back (F A I:Nat→Prop) (Γ:Gh) (w:World) (hs:List Zh) (res:AV) (I' : Nat→Prop) (Γ' : Gh) (v:Value) (w' : World):Prop where
 heads:ZU Γ Γ'
 keeps:ZB I I' w w'
 sub:∀ b,I' b→I b∨F b
 fr:Fr F w w'
 res:Rep Γ' w' I' res v
 objs:Wc Γ' w' I' F A (Yz 0 hs)
 inj:∀ i j o o' b,lkp (Yz 0 hs) i=some o→lkp (Yz 0 hs) j=some o'→Blk Γ' w' i o b→Blk Γ' w' j o' b→i=j
 bound:∀ b,I' b→b<w'.heap.size
 names:∀ id,hs.length≤id→Γ' id=none
def Enters (P:Program) (f:FuncId):Prop:=∃ fn,P.funcs[f]?=some fn∧(fn.name == "runtime.NumGoroutine")=false∧fn.body.isNone=false
def Zgr (P:Program) (f:FuncId) (as:List AV) (h:List Zh) (res:AV) (hs:List Zh):Prop:=
 Enters P f∧∀ (F A I:Nat→Prop) (Γ:Gh) (args:List Value) (w:World),Pre F A I Γ h as args w→Calls P f args.toArray w fun e w'=>∃ v I' Γ',e=.returned v∧Back F A I Γ w hs res I' Γ' v w'
def Z7 (P:Program) (C:Orc):Prop:=∀ f as h res hs,C f as h=some (res,hs)→Zgr P f as h res hs
section
variable {P:Program} {nt:Nat} {U:Nat→Prop} {F A I:Nat→Prop} {Γ:Gh} {sl:Sl} {hp:Hp} {a:Act} {w:World}
def Zle (P:Program) (nt:Nat) (F A I:Nat→Prop) (Γ:Gh) (U:Nat→Prop) (sl:Sl) (hp:Hp) (a:Act) (w:World) (o:Oper) (base:Nat) (ce:Zb):Prop:=
 ∀ (K:Act→World→Prop) (Q:Exit→Act→World→Prop),(∀ u w',YU nt F A I Γ w (V0 U base) (ce.on o.dst sl hp).1 (ce.on o.dst sl hp).2 (a.put o.dst u) w'→K (a.put o.dst u) w')→o.wp P a w K Q
theorem Jw.opWp {o:Oper} {base:Nat} {ce:Zb} (h:Jw P nt F A I Γ U sl hp a w o base ce):Zle P nt F A I Γ U sl hp a w o base ce:=by
 intro K Q hK;obtain⟨u,w',h1,h2⟩:=h;exact h1.wp (hK u w' h2)
def Zig (Γ:Gh) (w:World) (hp:Hp) (I' : Nat→Prop) (ids:List Nat):Prop:=∀ id∈ids,∀ o b,lkp hp id=some o→Zbh (some o)=true→Blk Γ w id o b→I' b
theorem Zig.sub {I' : Nat→Prop} {ids aa : List Nat} (h:Zig Γ w hp I' ids) (hs:∀ id∈aa,id∈ids):Zig Γ w hp I' aa:=fun id ab=>h id (hs id ab)
theorem Zmz (h:Wc Γ w I F A hp) (ids:List Nat):Zig Γ w hp (Zbv Γ w hp I ids) ids:=by
 intro id aa o b hl hr hb;cases o with
 | box cs=>cases hr
 | gone=>exact hb.isGone.elim
 | tree sz ns xs lk=>exact .inr ⟨id,aa,_,hl,rfl,hb⟩
 | row sz xs ex fz=>
  cases fz with
  | false=>exact .inr ⟨id,aa,_,hl,rfl,hb⟩
  | true=>
   have hb:=hb.row;obtain⟨ad,n,c,h1,h2,h3⟩:=h id _ hl;rw[h1] at hb;obtain⟨ae,rfl,rfl,hc⟩:=Zjb hb;rcases h3 with h3 | ⟨g,cur,e,hg,h4,h5,h6,h7,h8,h9,ab,af⟩
   ·exact absurd h3.2 hc
   ·cases hg;exact .inl (by simpa using ab)
theorem Zlf (h:Wc Γ w I F A hp) {I' : Nat→Prop} (hI:∀ b,I b→I' b) {id:Nat} (aa:Zig Γ w hp I' [id]) {xs:List D} (he:YH (lkp hp id)=some xs) :
  ∃ ad n c sz,Γ id=some (.row ad n c sz)∧n=xs.length∧n≤c∧((n=0∧c=0)∨∃ g,ad=some ⟨g,0,none⟩∧I' g∧0<sz∧YT w I' g sz xs 0):=by
 unfold YH at he;split at he
 ·rename_i sz af ex fz hl;cases he;obtain⟨ad,n,c,h1,h2,h3⟩:=h id _ hl;refine⟨ad,n,c,sz,h1,h2,?_⟩;rcases h3 with h3 | ⟨g,cur,e,rfl,hc,hw,h4,h5,h6,h7,h8,hF,h9⟩
  ·exact⟨by omega,.inl h3⟩
  ·refine⟨h4,.inr ⟨g,rfl,aa id (by simp) _ g hl rfl (.inl (by rw[h1];simp[Zp,Ks hc])),h7,?_⟩⟩;cases ex
   ·exact h9.mono' (Wo hI) rfl
   ·exact h9.mono' ⟨fun b hb=>hI b hb.1,fun _ _=>rfl⟩ rfl
 ·rename_i sz ns af hl;cases he;obtain⟨ad,n,c,h1,⟨h2,h3⟩,_⟩:=h id _ hl;refine⟨ad,n,c,sz,h1,h2,?_⟩;rcases h3 with h3 | ⟨g,cur,e,B,rfl,hc,hw,h4,h5,h6,ab,h8,h9,ag⟩
  ·exact⟨by omega,.inl ⟨h3.1,h3.2.1⟩⟩
  ·have ae:Zp (Γ id)=some g:=by rw[h1];simp[Zp,Ks hc]
   exact⟨h4,.inr ⟨g,rfl,aa id (by simp) _ g hl rfl (.inl ae),ab,h8.rep fun b hb=>aa id (by simp) _ b hl rfl (.inr (.inl ⟨g,B,ae,h8,hb⟩))⟩⟩
 ·cases he
theorem ZjT (h:Wc Γ w I F A hp) {I' : Nat→Prop} (hI:∀ b,I b→I' b) {x:AV} {v:Value} (hx:Rep Γ w I x v) (aa:Zig Γ w hp I' (UZ x)) {d:D} (hd:Zb3 hp x=some d):QH w I' d v:=by
 unfold Zb3 at hd;split at hd
 ·cases hd;exact(QQ.1 hx).mono (Wo hI)
 ·cases hd;obtain⟨ad,rfl⟩:=hx;exact⟨ad,0,rfl,by simp,.inl rfl⟩
 ·rename_i id;obtain⟨xs,h1,hd⟩:=Za hd;cases hd;obtain⟨ad,n,c,sz,h2,h3,h4,h5⟩:=Zlf h hI aa h1;obtain⟨aj,n',c',af,h6,rfl⟩:=hx;rw[h2] at h6;cases h6;refine⟨ad,c,by rw[h3],by omega,?_⟩;rcases h5 with h5 | ⟨g,rfl,h7,h8,h9⟩
  ·exact .inl (Ki (by omega))
  ·exact .inr ⟨g,0,sz,rfl,h7,h8,h9⟩
 ·rename_i id off n;obtain⟨xs,h1,hd⟩:=Za hd;cases hd;obtain⟨ad,m,c,sz,h2,h3,h4,h5⟩:=Zlf h hI aa h1;obtain⟨a0,m',c',af,av,h6,h7,h8,rfl,h9,ab⟩:=hx;rw[h2] at h6;cases h6;have ae:n=((xs.drop off).take n).length:=by simp;omega
  refine⟨av,c-off,by rw[← ae],by omega,?_⟩;by_cases hn:n=0
  ·exact .inl (Ki (by omega))
  ·rcases h5 with h5 | ⟨g,rfl,ag,ah,ai⟩
   ·omega
   ·rcases ab with ab | ab
    ·subst ab;exact .inr ⟨g,off*sz,sz,by simp[Y6],ag,ah,by simpa using ZdY ai off n⟩
    ·omega
 ·cases hd
theorem ZnH (h:Wc Γ w I F A hp) {I' : Nat→Prop} (hI:∀ b,I b→I' b):∀ {xs:List AV} {vs:List Value} {ds:List D},Zn (Xy Γ w I) xs vs→Zig Γ w hp I' (xs.flatMap UZ)→Z6 (Zb3 hp) xs=some ds→W1 D.one ds=true→Qg w I' ds vs
 | [],[],ds,_,_,hd,_=>by simp only[Z6] at hd;cases hd;simp[Qg]
 | [],_ :: _,_,h,_,_,_=>h.elim
 | _ :: _,[],_,h,_,_,_=>h.elim
 | x :: xs,v :: vs,ds,hr,hl,hd,h1=>by
  simp only[Z6] at hd;obtain⟨d,h2,hd⟩:=Za hd;obtain⟨ab,h3,hd⟩:=Za hd;cases hd;simp only[W1,Kb] at h1;refine⟨v,vs,rfl,h1.1,(QH.one h1.1).1 (ZjT h hI hr.1.rep2.rep (hl.sub fun id aa=>by simp only[Kw,Kd];exact .inl aa) h2),ZnH h hI hr.2 (hl.sub fun id aa=>by simp only[Kw,Kd];exact .inr aa) h3 h1.2⟩
theorem ZmA (h:Wc Γ w I F A hp) {I' : Nat→Prop} (hI:∀ b,I b→I' b) {x:AV} {v:Value} (hx:Rep Γ w I x v) (aa:Zig Γ w hp I' (J7 x)) {d:D} (hd:toD hp x=some d):QH w I' d v:=by
 unfold toD at hd;split at hd
 ·rename_i cs;obtain⟨ds,h1,hd⟩:=Za hd;split at hd
  ·rename_i h2;cases hd;obtain⟨vs,rfl,h3⟩:=hx;exact⟨vs,rfl,ZnH h hI h3 aa h1 h2⟩
  ·cases hd
 ·rename_i ab;refine ZjT h hI hx ?_ hd;cases x<;>first | exact aa | (exact absurd rfl (ab _))
def ZnI (x y:AV):List Nat:=match y with
 | .d _=>J7 x
 | _=>[]
theorem Zrz (h:Wc Γ w I F A hp) {I' : Nat→Prop} (hI:∀ b,I b→I' b) {m:Bool} {x y:AV} {v:Value} (hx:Rep Γ w I x v) (ha:UT hp m x=some y) (aa:Zig Γ w hp I' (ZnI x y)):Rep Γ w I' y v:=by
 have keep:Rep Γ w I' x v:=hx.mono (ZU.refl Γ) (Wo hI);unfold UT at ha;split at ha
 ·cases ha;exact keep
 ·cases ha;exact keep
 ·cases ha;exact keep
 ·cases ha;exact keep
 ·cases ha;exact keep
 ·rename_i id;cases m
  ·simp only[Zah,asD] at ha;obtain⟨d,h1,ha⟩:=Za ha;cases ha;exact QQ.2 (ZjT h hI hx aa h1)
  ·simp only[Zah] at ha;cases ha;exact keep
 ·cases m
  ·simp only[Zbg] at ha;cases ha;exact QQ.2 (ZmA h hI hx aa rfl)
  ·simp only[Zbg] at ha;cases ha;exact keep
 ·cases ha;exact keep
 ·cases m
  ·simp only[Zai,asD] at ha;obtain⟨d,h1,ha⟩:=Za ha;cases ha;exact QQ.2 (ZmA h hI hx aa h1)
  ·simp only[Zai] at ha;split at ha
   ·cases ha
   ·cases ha;exact keep
 ·obtain⟨d,h1,ha⟩:=Za ha;cases ha;exact QQ.2 (ZmA h hI hx aa h1)
theorem ZeP (x y:AV) (xs ys:List AV):Xu (x :: xs) (y :: ys)=ZnI x y++Xu xs ys:=by
 cases y<;>simp[Xu,ZnI]
theorem ZnJ (h:Wc Γ w I F A hp) {I' : Nat→Prop} (hI:∀ b,I b→I' b) (m:Nat→Bool):∀ {xs ys:List AV} {vs:List Value} (i:Nat),Zn (Rep Γ w I) xs vs→args hp m i xs=some ys→Zig Γ w hp I' (Xu xs ys)→Zn (Rep Γ w I') ys vs
 | [],ys,[],i,_,ha,_=>by simp only[args] at ha;cases ha;exact trivial
 | [],_,_ :: _,_,h,_,_=>h.elim
 | _ :: _,_,[],_,h,_,_=>h.elim
 | x :: xs,ys,v :: vs,i,hr,ha,hl=>by
  simp only[args] at ha;obtain⟨y,h1,ha⟩:=Za ha;obtain⟨ab,h2,ha⟩:=Za ha;cases ha;rw[ZeP] at hl;exact⟨Zrz h hI hr.1 h1 (hl.sub fun id aa=>by simp[aa]),ZnJ h hI m (i+1) hr.2 h2 (hl.sub fun id aa=>by simp[aa])⟩
def Za0 (ids:List Nat) (Γ:Gh):Gh:=fun k=>match ids[k]? with
 | some id=>Γ id
 | none=>none
theorem XM {ids:List Nat} {k id:Nat} (h:ids[k]?=some id):Za0 ids Γ k=Γ id:=by simp[Za0,h]
theorem Za1 {ids l:List Nat} (h:∀ id∈l,id∈ids):Ws Γ (Za0 ids Γ) (X9 ids) l:=by
 intro id aa r hr;rw[XM (Zdj (h id aa)).2];exact hr
theorem ZeQ {S S' : Nat→Prop} {b sz:Nat} {ys:List D} (hf:W1 D.flat ys=true) {o:Nat} (h:YT w S b sz ys o):YT w S' b sz ys o:=by
 rw[Q8] at h ⊢;intro i x hx;obtain⟨vs,h1,h2,h3⟩:=h i x hx;refine⟨vs,h1,h2,?_⟩;have aa : x.flat=true:=by
  clear h h1 h2 h3
  induction ys generalizing i with
  | nil=>simp at hx
  | cons y ys ih=>
   simp only[W1,Kb] at hf;cases i with
   | zero=>simp at hx;subst hx;exact hf.1
   | succ i=>simp at hx;exact ih hf.2 i hx
 have one:∀ {y:D} {v:Value},y.plain=true→ZA w S y [v]→ZA w S' y [v]:=by
  intro y v hy hv;cases y<;>first | (simpa [ZA] using hv) | (simp[D.plain] at hy)
 have all:∀ (ds:List D) (us:List Value),W1 D.plain ds=true→Qg w S ds us→Qg w S' ds us:=by
  intro ds
  induction ds with
  | nil=>intro us _ h;simpa [Qg] using h
  | cons d ds ih=>
   intro us hp h;simp only[W1,Kb] at hp;obtain⟨v,r,h1,h2,h3,h4⟩:=h;exact⟨v,r,h1,h2,one hp.1 h3,ih r hp.2 h4⟩
 have:=all x.cells vs aa h3.cells;exact Ziq (Qp.1 this)
theorem ZdJ.give {I' F' A' : Nat→Prop} {ad:Option Addr} {n c sz:Nat} {ys:List D} (h:ZdJ w I F A ad n c sz ys true false) (hf:W1 D.flat ys=true)
  (hb:∀ b,Zp (some (.row ad n c sz))=some b→F b→F' b∧(I' b→I b)):ZdJ w I' F' A' ad n c sz ys true false:=by
 obtain⟨h2,h3⟩:=h;refine⟨h2,?_⟩;rcases h3 with h3 | ⟨g,cur,e,rfl,hc,hw,h4,h5,h6,h7,h8,aa,h9⟩
 ·exact .inl h3
 ·obtain⟨ab,ae⟩:=hb g (by simp[Zp,Ks hc]) aa;exact .inr ⟨g,cur,e,rfl,hc,hw,h4,h5,h6,h7,by simp at h8 ⊢;exact fun hi=>h8 (ae hi),ab,ZeQ hf h9⟩
theorem Zlg {ids:List Nat} {id k:Nat} (hk:ids[k]?=some id) {o:Zh} (ho:Xw Γ w I F A id o) {I' F' A' : Nat→Prop} (hI:∀ b,I b→I' b) (hF:∀ b,Blk Γ w id o b→F' b) (hA:∀ b,I b→A b→A' b)
  (hn:∀ b,Blk Γ w id o b→I' b→I b):Xw (Za0 ids Γ) w I' F' A' k (WI ids o):=by
 cases o with
 | gone=>
  obtain⟨r,hr⟩:=ho;exact⟨r,by rw[XM hk,hr]⟩
 | tree sz ns xs lk=>
  obtain⟨ad,n,c,h1,h2,h3⟩:=ho;refine⟨ad,n,c,by rw[XM hk,h1],?_,Xm.lose (Xm.kill (Γ':=Γ) h3 (fun _ _ _ h=>h) fun _ _=>rfl)⟩;rw[Vw,Vx];refine h2.mono fun b hb=>?_;rw[← h1] at hb;have ab : Blk Γ w id (.tree sz ns xs lk) b:=hb.elim .inl fun h=>.inr (.inl h);exact⟨rfl,hn b ab,fun _=>hF b ab⟩
 | box cs=>
  obtain⟨b,cur,e,h1,h2,h3,h4,h5,af⟩:=ho;have hb:Blk Γ w id (.box cs) b:=.inl (by rw[h1];rfl);refine⟨b,cur,e,by rw[XM hk,h1],h2,fun hi=>h3 (hn b hb hi),hF b hb,?_,((af.mono fun x te l u v g hc hv hg=>have hB:=Or.inr (Or.inr (Znu h1 h2 hc hv hg));⟨rfl,hn g hB,fun _=>hF g hB⟩).map (Vl _)).map (Ui _)⟩;have h6:Zn (QZ Γ w I) (cs.map (Zz ((VH (.box cs)).filter fun i=>!ids.contains i))) cur.toList:=h5.map_left fun _ _ h=>Zei h;refine JD (Za1 fun ae aa=>?_) (Wo hI) h6;obtain⟨y,hy,aa⟩:=Kl.1 aa;obtain⟨x,hx,rfl⟩:=K7.1 hy;obtain⟨h7,h8⟩:=ZcK _ x ae aa;have h9:ae∈VH (.box cs):=Kl.2 ⟨x,hx,h7⟩
  simp only[List.mem_filter,KF,KD,KH,not_and,Decidable.not_not] at h8;exact h8 h9
 | row sz xs ex fz=>
  obtain⟨ad,n,c,h1,h2,h3⟩:=ho;refine⟨ad,n,c,by rw[XM hk,h1],h2,?_⟩;rcases h3 with h3 | ⟨g,cur,e,rfl,hc,hw,h4,h5,h6,h7,h8,ag,h9⟩
  ·exact .inl h3
  ·have hb:Blk Γ w id (.row sz xs ex fz) g:=.inl (by rw[h1];simp[Zp,Ks hc]);refine .inr ⟨g,cur,e,rfl,hc,hw,h4,h5,h6,h7,?_,hF g hb,?_⟩
   ·cases fz
    ·simp at h8 ⊢;exact fun hi=>h8 (hn g hb hi)
    ·simp at h8 ⊢;exact hI g h8
   ·cases ex
    ·exact h9.mono' (Wo hI) rfl
    ·simp only[Kh] at h9 ⊢;exact h9.mono' ⟨fun b hb=>⟨hI b hb.1,hA b hb.1 hb.2⟩,fun _ _=>rfl⟩ rfl
end
end Go.Abs
