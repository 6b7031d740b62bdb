/- Own text. -/
import Derived.Test.YtgpiffflfkoocaaDoorAbsStep8
set_option linter.unusedVariables false
set_option linter.unusedSimpArgs false
namespace Go.Abs
open Go
section
variable {Γ Γ' : Gh} {w w' : World} {I I' : Nat→Prop}
def AV.small:AV→Bool
 | .d _=>false
 | .agg _=>false
 | .tup _=>false
 | .clo _ _=>false
 | _=>true
theorem Vf {x:AV} (hs:x.small=true) (v:Value):(Rep Γ w I x v=XY Γ w I x v)∧(Wp Γ w I x v=XY Γ w I x v)∧(Q3 Γ w I x v=XY Γ w I x v):=by
 cases x<;>first | exact⟨rfl,rfl,rfl⟩ | cases hs
theorem XQ {x:AV} (hs:x.small=true) (g:Nat→Nat) (bad:List Nat) :
  ren g x=ZaK g x∧Zah g x=ZaK g x∧kill bad x=ZU bad x∧ZF bad x=ZU bad x∧Zl x=Zg x∧Zo x=Zg x:=by
 cases x<;>first | exact⟨rfl,rfl,rfl,rfl,rfl,rfl⟩ | cases hs
def WS (Γ Γ' : Gh) (g:Nat→Nat) (ids:List Nat):Prop:=∀ id∈ids,∀ r,Γ id=some r→Γ' (g id)=some r
theorem Zd9 {g:Nat→Nat} {x:AV} {v:Value} (hg:WS Γ Γ' g (Zg x)) (hk:ZG I I' w w') (h:XY Γ w I x v):XY Γ' w' I' (ZaK g x) v:=by
 cases x with
 | d x=>exact⟨h.1,h.2.mono hk⟩
 | nil=>exact h
 | nilp=>exact h
 | nili=>exact h
 | ptr id off=>obtain⟨b,h1,h2⟩:=h;exact⟨b,hg id (by simp[Zg]) _ h1,h2⟩
 | prow id sz i off=>obtain⟨b,n,c,h1,h2⟩:=h;exact⟨b,n,c,hg id (by simp[Zg]) _ h1,h2⟩
 | pim cs=>obtain⟨b,o,vs,h1,h2,h3,h4⟩:=h;exact⟨b,o,vs,h1,hk.sub b h2,h3.mono (hk.blk b h2),h4.mono hk⟩
 | own id=>obtain⟨a,n,c,sz,h1,h2⟩:=h;exact⟨a,n,c,sz,hg id (by simp[Zg]) _ h1,h2⟩
 | ownv id off n=>obtain⟨a0,m,c,sz,a,h1,h2⟩:=h;exact⟨a0,m,c,sz,a,hg id (by simp[Zg]) _ h1,h2⟩
 | bnil id e=>obtain⟨b,h1,h2⟩:=h;exact⟨b,hg id (by simp[Zg]) _ h1,h2⟩
 | bbuf a b=>exact h
 | agg cs=>exact h.elim
 | tup cs=>exact h.elim
 | clo f cs=>exact h.elim
 | junk=>exact trivial
theorem Zea {g:Nat→Nat}:∀ {xs:List AV} {vs:List Value},WS Γ Γ' g (xs.flatMap Zg)→ZG I I' w w'→Zm (XY Γ w I) xs vs→Zm (XY Γ' w' I') (xs.map (ZaK g)) vs
 | [],[],_,_,_=>trivial
 | [],_ :: _,_,_,h=>h.elim
 | _ :: _,[],_,_,h=>h.elim
 | x :: xs,v :: vs,hg,hk,h=>⟨Zd9 (fun id aa=>hg id (by simp[aa])) hk h.1,Zea (fun id aa=>hg id (by simp only[Kw,Kd];exact .inr aa)) hk h.2⟩
theorem Zrz {g:Nat→Nat} {x:AV} {v:Value} (hg:WS Γ Γ' g (Zo x)) (hk:ZG I I' w w') (h:Q3 Γ w I x v):Q3 Γ' w' I' (Zah g x) v:=by
 by_cases hs:x.small=true
 ·rw[(XQ hs g []).2.2.2.2.2] at hg;rw[(Vf hs v).2.2] at h;rw[(XQ hs g []).2.1];exact(Zd9 hg hk h).repB
 ·cases x with
  | clo f cs=>obtain⟨us,h1,h2⟩:=h;exact⟨us,h1,Zea hg hk h2⟩
  | agg cs=>exact h.elim
  | tup cs=>exact h.elim
  | d x=>exact⟨h.1,h.2.mono hk⟩
  | _=>exact absurd rfl hs
theorem ZhM {g:Nat→Nat} {x:AV} {v:Value} (hg:WS Γ Γ' g (Zo x)) (hk:ZG I I' w w') (h:Wp Γ w I x v):Wp Γ' w' I' (Zah g x) v:=by
 by_cases hs:x.small=true
 ·rw[(XQ hs g []).2.2.2.2.2] at hg;rw[(Vf hs v).2.1] at h;rw[(XQ hs g []).2.1];exact(Zd9 hg hk h).rep2
 ·cases x with
  | clo f cs=>obtain⟨us,h1,h2⟩:=h;exact⟨us,h1,Zea hg hk h2⟩
  | agg cs=>obtain⟨us,h1,h2⟩:=h;exact⟨us,h1,Zea hg hk h2⟩
  | tup cs=>exact h.elim
  | d x=>exact ZiK.2 ((ZiK.1 h).mono hk)
  | _=>exact absurd rfl hs
theorem ZjZ {g:Nat→Nat}:∀ {xs:List AV} {vs:List Value},WS Γ Γ' g (xs.flatMap Zo)→ZG I I' w w'→Zm (Wp Γ w I) xs vs→Zm (Wp Γ' w' I') (xs.map (Zah g)) vs
 | [],[],_,_,_=>trivial
 | [],_ :: _,_,_,h=>h.elim
 | _ :: _,[],_,_,h=>h.elim
 | x :: xs,v :: vs,hg,hk,h=>⟨ZhM (fun id aa=>hg id (by simp only[Kw,Kd];exact .inl aa)) hk h.1,ZjZ (fun id aa=>hg id (by simp only[Kw,Kd];exact .inr aa)) hk h.2⟩
theorem Zai {g:Nat→Nat}:∀ {xs:List AV} {vs:List Value},WS Γ Γ' g (xs.flatMap Zo)→ZG I I' w w'→Zm (Q3 Γ w I) xs vs→Zm (Q3 Γ' w' I') (xs.map (Zah g)) vs
 | [],[],_,_,_=>trivial
 | [],_ :: _,_,_,h=>h.elim
 | _ :: _,[],_,_,h=>h.elim
 | x :: xs,v :: vs,hg,hk,h=>⟨Zrz (fun id aa=>hg id (by simp only[Kw,Kd];exact .inl aa)) hk h.1,Zai (fun id aa=>hg id (by simp only[Kw,Kd];exact .inr aa)) hk h.2⟩
theorem Zg3 {g:Nat→Nat} {x:AV} {v:Value} (hg:WS Γ Γ' g (Zl x)) (hk:ZG I I' w w') (h:Rep Γ w I x v):Rep Γ' w' I' (ren g x) v:=by
 by_cases hs:x.small=true
 ·rw[(XQ hs g []).2.2.2.2.1] at hg;rw[(Vf hs v).1] at h;rw[(XQ hs g []).1];exact(Zd9 hg hk h).rep2.rep
 ·cases x with
  | tup vs=>obtain⟨us,h1,h2⟩:=h;exact⟨us,h1,ZjZ hg hk h2⟩
  | clo f cs=>exact ZhM (g:=g) (x:=.clo f cs) hg hk h
  | agg cs=>exact ZhM (g:=g) (x:=.agg cs) hg hk h
  | d x=>exact Qi.2 ((Qi.1 h).mono hk)
  | _=>exact absurd rfl hs
theorem Zcp {bad:List Nat} {x:AV} {v:Value} (h:XY Γ w I x v):XY Γ w I (ZU bad x) v:=by
 cases x<;>simp only[ZU]<;>first | exact h | (split<;>first | exact trivial | exact h)
theorem Zfk {bad:List Nat} {xs:List AV} {vs:List Value} (h:Zm (XY Γ w I) xs vs):Zm (XY Γ w I) (xs.map (ZU bad)) vs:=h.map_left fun _ _ h=>Zcp h
theorem Zfl {bad:List Nat} {x:AV} {v:Value} (h:Q3 Γ w I x v):Q3 Γ w I (ZF bad x) v:=by
 by_cases hs:x.small=true
 ·rw[(Vf hs v).2.2] at h;rw[(XQ hs id bad).2.2.2.1];exact(Zcp h).repB
 ·cases x with
  | clo f cs=>obtain⟨us,h1,h2⟩:=h;exact⟨us,h1,Zfk h2⟩
  | agg cs=>exact h.elim
  | tup cs=>exact h.elim
  | d x=>exact h
  | _=>exact absurd rfl hs
theorem Zfm {bad:List Nat} {x:AV} {v:Value} (h:Wp Γ w I x v):Wp Γ w I (ZF bad x) v:=by
 by_cases hs:x.small=true
 ·rw[(Vf hs v).2.1] at h;rw[(XQ hs id bad).2.2.2.1];exact(Zcp h).rep2
 ·cases x with
  | clo f cs=>obtain⟨us,h1,h2⟩:=h;exact⟨us,h1,Zfk h2⟩
  | agg cs=>obtain⟨us,h1,h2⟩:=h;exact⟨us,h1,Zfk h2⟩
  | tup cs=>exact h.elim
  | d x=>exact h
  | _=>exact absurd rfl hs
theorem Zmt {bad:List Nat} {x:AV} {v:Value} (h:Rep Γ w I x v):Rep Γ w I (kill bad x) v:=by
 by_cases hs:x.small=true
 ·rw[(Vf hs v).1] at h;rw[(XQ hs id bad).2.2.1];exact(Zcp h).rep2.rep
 ·cases x with
  | tup vs=>obtain⟨us,h1,h2⟩:=h;exact⟨us,h1,h2.map_left fun _ _ h=>Zfm h⟩
  | clo f cs=>exact(Zfm (bad:=bad) (x:=.clo f cs) h).rep
  | agg cs=>exact(Zfm (bad:=bad) (x:=.agg cs) h).rep
  | d x=>exact h
  | _=>exact absurd rfl hs
theorem Zds (bad:List Nat) (x:AV):∀ id∈Zg (ZU bad x),id∈Zg x∧id∉bad:=by
 intro id aa;cases x<;>simp only[ZU] at aa<;>first
  | (simp[Zg] at aa;done)
  | (split at aa
     ·simp [Zg] at aa
     ·rename_i hb;simp[Zg] at aa hb ⊢;first | (subst aa;simpa using hb) | (rcases aa with rfl | rfl<;>simp[hb]))
theorem ZaL (bad:List Nat) (xs:List AV):∀ id∈(xs.map (ZU bad)).flatMap Zg,id∈xs.flatMap Zg∧id∉bad:=by
 intro id aa;obtain⟨y,hy,aa⟩:=Kq.1 aa;obtain⟨x,hx,rfl⟩:=Le.1 hy;obtain⟨h1,h2⟩:=Zds bad x id aa;exact⟨Kq.2 ⟨x,hx,h1⟩,h2⟩
theorem Zdt (bad:List Nat) (x:AV):∀ id∈Zo (ZF bad x),id∈Zo x∧id∉bad:=by
 intro id aa;by_cases hs:x.small=true
 ·rw[(XQ hs (fun k=>k) bad).2.2.2.1] at aa;have ab : Zo (ZU bad x)=Zg (ZU bad x):=by
   cases x<;>simp only[ZU]<;>first | rfl | (split<;>rfl) | (cases hs)
  rw[ab] at aa;rw[(XQ hs (fun k=>k) bad).2.2.2.2.2];exact Zds bad x id aa
 ·cases x with
  | agg cs=>exact ZaL bad cs id aa
  | clo f cs=>exact ZaL bad cs id aa
  | tup cs=>simp[ZF,ZU,Zo,Zg] at aa
  | d x=>simp[ZF,ZU,Zo,Zg] at aa
  | _=>exact absurd rfl hs
theorem Zj0 (bad:List Nat) (x:AV):∀ id∈Zl (kill bad x),id∈Zl x∧id∉bad:=by
 intro id aa;by_cases hs:x.small=true
 ·rw[(XQ hs (fun k=>k) bad).2.2.1] at aa;have ab : Zl (ZU bad x)=Zg (ZU bad x):=by
   cases x<;>simp only[ZU]<;>first | rfl | (split<;>rfl) | (cases hs)
  rw[ab] at aa;rw[(XQ hs (fun k=>k) bad).2.2.2.2.1];exact Zds bad x id aa
 ·cases x with
  | tup vs=>
   obtain⟨y,hy,aa⟩:=Kq.1 aa;obtain⟨x,hx,rfl⟩:=Le.1 hy;obtain⟨h1,h2⟩:=Zdt bad x id aa;exact⟨Kq.2 ⟨x,hx,h1⟩,h2⟩
  | agg cs=>exact ZaL bad cs id aa
  | clo f cs=>exact ZaL bad cs id aa
  | d x=>simp[kill,ZF,ZU,Zl,Zo,Zg] at aa
  | _=>exact absurd rfl hs
end
theorem Wg (hp:Hp):∀ (n:Nat) (todo aa:List Nat),aa.Nodup→(QF hp n todo aa).Nodup∧(∀ id∈aa,id∈QF hp n todo aa)∧(∀ id∈QF hp n todo aa,id∈aa∨∃ o,lkp hp id=some o)
 | 0,todo,aa,h=>by simp only[QF];exact⟨h,fun _ h=>h,fun _ h=>.inl h⟩
 | n+1,[],aa,h=>by simp only[QF];exact⟨h,fun _ h=>h,fun _ h=>.inl h⟩
 | n+1,id :: todo,aa,h=>by
  simp only[QF];split
  ·exact Wg hp n todo aa h
  ·rename_i hc;cases hl:lkp hp id with
   | none=>simp only[Wn];exact Wg hp n todo aa h
   | some o=>
    simp only[Wn];have ab:(aa++[id]).Nodup:=by
     rw[LX];refine⟨h,by simp,?_⟩;intro a ha b hb;simp at hb;subst hb;intro e;subst e;simp at hc;exact hc ha
    obtain⟨h1,h2,h3⟩:=Wg hp n (todo++Wf o) (aa++[id]) ab;refine⟨h1,fun x hx=>h2 x (by simp[hx]),fun x hx=>?_⟩;rcases h3 x hx with h4 | h4
    ·simp at h4;rcases h4 with h4 | rfl
     ·exact .inl h4
     ·exact .inr ⟨o,hl⟩
    ·exact .inr h4
theorem Zeb:∀ {ids:List Nat} {id:Nat},id∈ids→YH ids id<ids.length∧ids[YH ids id]?=some id
 | [],_,h=>by simp at h
 | x :: r,id,h=>by
  simp only[YH];split
  ·rename_i e;subst e;simp
  ·rename_i e;rcases Ke.1 h with h | h
   ·exact absurd h.symm e
   ·obtain⟨h1,h2⟩:=Zeb h;exact⟨by simp;omega,by simpa using h2⟩
theorem Zcq:∀ {ids:List Nat},ids.Nodup→∀ {k id:Nat},ids[k]?=some id→YH ids id=k
 | [],_,k,id,h=>by simp at h
 | x :: r,hn,k,id,h=>by
  rw[Lk] at hn;cases k with
  | zero=>simp at h;subst h;simp[YH]
  | succ k=>
   simp at h;have aa:x≠id:=fun e=>hn.1 (e ▸ Kp h);simp only[YH,Kf aa,Zcq hn.2 h]
def ZpX {α:Type} (b:Option α):Option α→Option α
 | some v=>some v
 | none=>b
theorem Zec {α:Type}:∀ (l:List (Nat×α)) (k:Nat) (v:α) (t:Nat),lkp (l++[(k,v)]) t=ZpX (if k=t then some v else none) (lkp l t)
 | [],k,v,t=>by simp[lkp,ZpX]
 | (j,x) :: l,k,v,t=>by
  by_cases h:j=t
  ·simp[lkp,h,ZpX]
  ·simp[lkp,h,Zec l k v t]
theorem Vx:∀ (l:List Zf) (k i:Nat),lkp (YN k l) i=if k≤i then l[i-k]? else none
 | [],k,i=>by simp[YN,lkp]
 | o :: r,k,i=>by
  simp only[YN,Zec,Vx r];by_cases h1:k=i
  ·subst h1;simp[ZpX,Nat.not_succ_le_self]
  ·by_cases h2:k≤i
   ·rw[Kf h1,Ko (by omega),Ko h2];have:i-k=(i-(k+1))+1:=by omega
    rw[this];simp;cases r[i-(k+1)]? <;> rfl
   ·rw[Kf h1,Kf (by omega),Kf h2];rfl
theorem ZhN (hp:Hp):∀ (ids:List Nat) (k:Nat),(JS hp ids)[k]?=(ids[k]?).map fun id=>Zm4 (lkp hp id)
 | [],k=>by simp[JS]
 | id :: r,0=>by simp[JS]
 | id :: r,k+1=>by simp[JS,ZhN hp r k]
end Go.Abs
set_option linter.unusedVariables false
set_option linter.unusedSimpArgs false
namespace Go.Abs
open Go
structure Pre (F A I:Nat→Prop) (Γ:Gh) (h:List Zf) (as:List AV) (args:List Value) (w:World):Prop where
 args:Zm (Rep Γ w I) as args
 objs:WG Γ w I F A (YN 0 h)
 inj:∀ i j o o' b,lkp (YN 0 h) i=some o→lkp (YN 0 h) j=some o'→Blk Γ w i o b→Blk Γ w j o' b→i=j
 bound:∀ b,I b→b<w.heap.size
 fresh:∀ b,w.heap.size≤b→F b
 own:∀ b,F b→A b
 names:∀ id,h.length≤id→Γ id=none
 glob:Zb1 I w
structure ZpY (F A I:Nat→Prop) (Γ:Gh) (w:World) (hs:List Zf) (res:AV) (I' : Nat→Prop) (Γ' : Gh) (v:Value) (w' : World):Prop where
 heads:ZY Γ Γ'
 keeps:ZG I I' w w'
 sub:∀ b,I' b→I b∨F b
 fr:Fr F w w'
 res:Rep Γ' w' I' res v
 objs:WG Γ' w' I' F A (YN 0 hs)
 inj:∀ i j o o' b,lkp (YN 0 hs) i=some o→lkp (YN 0 hs) j=some o'→Blk Γ' w' i o b→Blk Γ' w' j o' b→i=j
 bound:∀ b,I' b→b<w'.heap.size
 names:∀ id,hs.length≤id→Γ' id=none
def Zdu (P:Program) (f:FuncId):Prop:=∃ fn,P.funcs[f]?=some fn∧(fn.name == "runtime.NumGoroutine")=false∧fn.body.isNone=false
def ZhO (P:Program) (f:FuncId) (as:List AV) (h:List Zf) (res:AV) (hs:List Zf):Prop:=
 Zdu P f∧∀ (F A I:Nat→Prop) (Γ:Gh) (args:List Value) (w:World),Pre F A I Γ h as args w→Calls P f args.toArray w fun e w'=>∃ v I' Γ',e=.returned v∧ZpY F A I Γ w hs res I' Γ' v w'
def Qf (P:Program) (C:Orc):Prop:=∀ f as h res hs,C f as h=some (res,hs)→ZhO P f as h res hs
section
variable {P:Program} {nt:Nat} {U:Nat→Prop} {F A I:Nat→Prop} {Γ:Gh} {sl:Sl} {hp:Hp} {a:Act} {w:World}
def Zmu (P:Program) (nt:Nat) (F A I:Nat→Prop) (Γ:Gh) (U:Nat→Prop) (sl:Sl) (hp:Hp) (a:Act) (w:World) (o:Oper) (base:Nat) (ce:Zb):Prop:=
 ∀ (K:Act→World→Prop) (Q:Exit→Act→World→Prop),(∀ u w',Vq nt F A I Γ w (Wv U base) (ce.on o.dst sl hp).1 (ce.on o.dst sl hp).2 (a.put o.dst u) w'→K (a.put o.dst u) w')→o.wp P a w K Q
theorem J0.opWp {o:Oper} {base:Nat} {ce:Zb} (h:J0 P nt F A I Γ U sl hp a w o base ce):Zmu P nt F A I Γ U sl hp a w o base ce:=by
 intro K Q hK;obtain⟨u,w',h1,h2⟩:=h;exact h1.wp (hK u w' h2)
def Zjy (Γ:Gh) (w:World) (hp:Hp) (I' : Nat→Prop) (ids:List Nat):Prop:=∀ id∈ids,∀ o b,lkp hp id=some o→ZbX (some o)=true→Blk Γ w id o b→I' b
theorem Zjy.sub {I' : Nat→Prop} {ids aa : List Nat} (h:Zjy Γ w hp I' ids) (hs:∀ id∈aa,id∈ids):Zjy Γ w hp I' aa:=fun id ab=>h id (hs id ab)
theorem ZnQ (h:WG Γ w I F A hp) (ids:List Nat):Zjy Γ w hp (Zcc Γ w hp I ids) ids:=by
 intro id aa o b hl hr hb;cases o with
 | box cs=>cases hr
 | gone=>exact hb.isGone.elim
 | tree sz ns xs lk=>exact .inr ⟨id,aa,_,hl,rfl,hb⟩
 | row sz xs ex fz=>
  cases fz with
  | false=>exact .inr ⟨id,aa,_,hl,rfl,hb⟩
  | true=>
   have hb:=hb.row;obtain⟨ad,n,c,h1,h2,h3⟩:=h id _ hl;rw[h1] at hb;obtain⟨ae,rfl,rfl,hc⟩:=ZkC hb;rcases h3 with h3 | ⟨g,cur,e,hg,h4,h5,h6,h7,h8,h9,ab,af⟩
   ·exact absurd h3.2 hc
   ·cases hg;exact .inl (by simpa using ab)
theorem Zmv (h:WG Γ w I F A hp) {I' : Nat→Prop} (hI:∀ b,I b→I' b) {id:Nat} (aa:Zjy Γ w hp I' [id]) {xs:List D} (he:Vd (lkp hp id)=some xs) :
  ∃ ad n c sz,Γ id=some (.row ad n c sz)∧n=xs.length∧n≤c∧((n=0∧c=0)∨∃ g,ad=some ⟨g,0,none⟩∧I' g∧0<sz∧Vj w I' g sz xs 0):=by
 unfold Vd at he;split at he
 ·rename_i sz af ex fz hl;cases he;obtain⟨ad,n,c,h1,h2,h3⟩:=h id _ hl;refine⟨ad,n,c,sz,h1,h2,?_⟩;rcases h3 with h3 | ⟨g,cur,e,rfl,hc,hw,h4,h5,h6,h7,h8,hF,h9⟩
  ·exact⟨by omega,.inl h3⟩
  ·refine⟨h4,.inr ⟨g,rfl,aa id (by simp) _ g hl rfl (.inl (by rw[h1];simp[Zp,Kt hc])),h7,?_⟩⟩;cases ex
   ·exact h9.mono' (WP hI) rfl
   ·exact h9.mono' ⟨fun b hb=>hI b hb.1,fun _ _=>rfl⟩ rfl
 ·rename_i sz ns af hl;cases he;obtain⟨ad,n,c,h1,⟨h2,h3⟩,_⟩:=h id _ hl;refine⟨ad,n,c,sz,h1,h2,?_⟩;rcases h3 with h3 | ⟨g,cur,e,B,rfl,hc,hw,h4,h5,h6,ab,h8,h9,ag⟩
  ·exact⟨by omega,.inl ⟨h3.1,h3.2.1⟩⟩
  ·have ae:Zp (Γ id)=some g:=by rw[h1];simp[Zp,Kt hc]
   exact⟨h4,.inr ⟨g,rfl,aa id (by simp) _ g hl rfl (.inl ae),ab,h8.rep fun b hb=>aa id (by simp) _ b hl rfl (.inr (.inl ⟨g,B,ae,h8,hb⟩))⟩⟩
 ·cases he
theorem Zld (h:WG Γ w I F A hp) {I' : Nat→Prop} (hI:∀ b,I b→I' b) {x:AV} {v:Value} (hx:Rep Γ w I x v) (aa:Zjy Γ w hp I' (Jx x)) {d:D} (hd:ZcR hp x=some d):QE w I' d v:=by
 unfold ZcR at hd;split at hd
 ·cases hd;exact(Qi.1 hx).mono (WP hI)
 ·cases hd;obtain⟨ad,rfl⟩:=hx;exact⟨ad,0,rfl,by simp,.inl rfl⟩
 ·rename_i id;obtain⟨xs,h1,hd⟩:=Za hd;cases hd;obtain⟨ad,n,c,sz,h2,h3,h4,h5⟩:=Zmv h hI aa h1;obtain⟨aj,n',c',af,h6,rfl⟩:=hx;rw[h2] at h6;cases h6;refine⟨ad,c,by rw[h3],by omega,?_⟩;rcases h5 with h5 | ⟨g,rfl,h7,h8,h9⟩
  ·exact .inl (Kh (by omega))
  ·exact .inr ⟨g,0,sz,rfl,h7,h8,h9⟩
 ·rename_i id off n;obtain⟨xs,h1,hd⟩:=Za hd;cases hd;obtain⟨ad,m,c,sz,h2,h3,h4,h5⟩:=Zmv h hI aa h1;obtain⟨a0,m',c',af,av,h6,h7,h8,rfl,h9,ab⟩:=hx;rw[h2] at h6;cases h6;have ae:n=((xs.drop off).take n).length:=by simp;omega
  refine⟨av,c-off,by rw[← ae],by omega,?_⟩;by_cases hn:n=0
  ·exact .inl (Kh (by omega))
  ·rcases h5 with h5 | ⟨g,rfl,ag,ah,ai⟩
   ·omega
   ·rcases ab with ab | ab
    ·subst ab;exact .inr ⟨g,off*sz,sz,by simp[Vz],ag,ah,by simpa using ZeQ ai off n⟩
    ·omega
 ·cases hd
theorem Zo3 (h:WG Γ w I F A hp) {I' : Nat→Prop} (hI:∀ b,I b→I' b):∀ {xs:List AV} {vs:List Value} {ds:List D},Zm (XY Γ w I) xs vs→Zjy Γ w hp I' (xs.flatMap Jx)→Qe (ZcR hp) xs=some ds→Uv D.one ds=true→Qn w I' ds vs
 | [],[],ds,_,_,hd,_=>by simp only[Qe] at hd;cases hd;simp[Qn]
 | [],_ :: _,_,h,_,_,_=>h.elim
 | _ :: _,[],_,h,_,_,_=>h.elim
 | x :: xs,v :: vs,ds,hr,hl,hd,h1=>by
  simp only[Qe] at hd;obtain⟨d,h2,hd⟩:=Za hd;obtain⟨ab,h3,hd⟩:=Za hd;cases hd;simp only[Uv,Kc] at h1;refine⟨v,vs,rfl,h1.1,(QE.one h1.1).1 (Zld h hI hr.1.rep2.rep (hl.sub fun id aa=>by simp only[Kw,Kd];exact .inl aa) h2),Zo3 h hI hr.2 (hl.sub fun id aa=>by simp only[Kw,Kd];exact .inr aa) h3 h1.2⟩
theorem ZnR (h:WG Γ w I F A hp) {I' : Nat→Prop} (hI:∀ b,I b→I' b) {x:AV} {v:Value} (hx:Rep Γ w I x v) (aa:Zjy Γ w hp I' (ZaJ x)) {d:D} (hd:toD hp x=some d):QE w I' d v:=by
 unfold toD at hd;split at hd
 ·rename_i cs;obtain⟨ds,h1,hd⟩:=Za hd;split at hd
  ·rename_i h2;cases hd;obtain⟨vs,rfl,h3⟩:=hx;exact⟨vs,rfl,Zo3 h hI h3 aa h1 h2⟩
  ·cases hd
 ·rename_i ab;refine Zld h hI hx ?_ hd;cases x<;>first | exact aa | (exact absurd rfl (ab _))
def Zo4 (x y:AV):List Nat:=match y with
 | .d _=>ZaJ x
 | _=>[]
theorem ZsI (h:WG Γ w I F A hp) {I' : Nat→Prop} (hI:∀ b,I b→I' b) {m:Bool} {x y:AV} {v:Value} (hx:Rep Γ w I x v) (ha:Jt hp m x=some y) (aa:Zjy Γ w hp I' (Zo4 x y)):Rep Γ w I' y v:=by
 have keep:Rep Γ w I' x v:=hx.mono (ZY.refl Γ) (WP hI);unfold Jt at ha;split at ha
 ·cases ha;exact keep
 ·cases ha;exact keep
 ·cases ha;exact keep
 ·cases ha;exact keep
 ·cases ha;exact keep
 ·rename_i id;cases m
  ·simp only[ZaT,asD] at ha;obtain⟨d,h1,ha⟩:=Za ha;cases ha;exact Qi.2 (Zld h hI hx aa h1)
  ·simp only[ZaT] at ha;cases ha;exact keep
 ·cases m
  ·simp only[ZbW] at ha;cases ha;exact Qi.2 (ZnR h hI hx aa rfl)
  ·simp only[ZbW] at ha;cases ha;exact keep
 ·cases ha;exact keep
 ·cases m
  ·simp only[ZaU,asD] at ha;obtain⟨d,h1,ha⟩:=Za ha;cases ha;exact Qi.2 (ZnR h hI hx aa h1)
  ·simp only[ZaU] at ha;split at ha
   ·cases ha
   ·cases ha;exact keep
 ·obtain⟨d,h1,ha⟩:=Za ha;cases ha;exact Qi.2 (ZnR h hI hx aa h1)
theorem Zf3 (x y:AV) (xs ys:List AV):XV (x :: xs) (y :: ys)=Zo4 x y++XV xs ys:=by
 cases y<;>simp[XV,Zo4]
theorem Zo5 (h:WG Γ w I F A hp) {I' : Nat→Prop} (hI:∀ b,I b→I' b) (m:Nat→Bool):∀ {xs ys:List AV} {vs:List Value} (i:Nat),Zm (Rep Γ w I) xs vs→args hp m i xs=some ys→Zjy Γ w hp I' (XV xs ys)→Zm (Rep Γ w I') ys vs
 | [],ys,[],i,_,ha,_=>by simp only[args] at ha;cases ha;exact trivial
 | [],_,_ :: _,_,h,_,_=>h.elim
 | _ :: _,_,[],_,h,_,_=>h.elim
 | x :: xs,ys,v :: vs,i,hr,ha,hl=>by
  simp only[args] at ha;obtain⟨y,h1,ha⟩:=Za ha;obtain⟨ab,h2,ha⟩:=Za ha;cases ha;rw[Zf3] at hl;exact⟨ZsI h hI hr.1 h1 (hl.sub fun id aa=>by simp[aa]),Zo5 h hI m (i+1) hr.2 h2 (hl.sub fun id aa=>by simp[aa])⟩
def ZbH (ids:List Nat) (Γ:Gh):Gh:=fun k=>match ids[k]? with
 | some id=>Γ id
 | none=>none
theorem Yj {ids:List Nat} {k id:Nat} (h:ids[k]?=some id):ZbH ids Γ k=Γ id:=by simp[ZbH,h]
theorem ZbI {ids l:List Nat} (h:∀ id∈l,id∈ids):WS Γ (ZbH ids Γ) (YH ids) l:=by
 intro id aa r hr;rw[Yj (Zeb (h id aa)).2];exact hr
theorem Zf4 {S S' : Nat→Prop} {b sz:Nat} {ys:List D} (hf:Uv D.flat ys=true) {o:Nat} (h:Vj w S b sz ys o):Vj w S' b sz ys o:=by
 rw[Xh] at h ⊢;intro i x hx;obtain⟨vs,h1,h2,h3⟩:=h i x hx;refine⟨vs,h1,h2,?_⟩;have aa : x.flat=true:=by
  clear h h1 h2 h3
  induction ys generalizing i with
  | nil=>simp at hx
  | cons y ys ih=>
   simp only[Uv,Kc] at hf;cases i with
   | zero=>simp at hx;subst hx;exact hf.1
   | succ i=>simp at hx;exact ih hf.2 i hx
 have one:∀ {y:D} {v:Value},y.plain=true→ZA w S y [v]→ZA w S' y [v]:=by
  intro y v hy hv;cases y<;>first | (simpa [ZA] using hv) | (simp[D.plain] at hy)
 have all:∀ (ds:List D) (us:List Value),Uv D.plain ds=true→Qn w S ds us→Qn w S' ds us:=by
  intro ds
  induction ds with
  | nil=>intro us _ h;simpa [Qn] using h
  | cons d ds ih=>
   intro us hp h;simp only[Uv,Kc] at hp;obtain⟨v,r,h1,h2,h3,h4⟩:=h;exact⟨v,r,h1,h2,one hp.1 h3,ih r hp.2 h4⟩
 have:=all x.cells vs aa h3.cells;exact ZjI (Qx.1 this)
theorem ZeB.give {I' F' A' : Nat→Prop} {ad:Option Addr} {n c sz:Nat} {ys:List D} (h:ZeB w I F A ad n c sz ys true false) (hf:Uv D.flat ys=true)
  (hb:∀ b,Zp (some (.row ad n c sz))=some b→F b→F' b∧(I' b→I b)):ZeB w I' F' A' ad n c sz ys true false:=by
 obtain⟨h2,h3⟩:=h;refine⟨h2,?_⟩;rcases h3 with h3 | ⟨g,cur,e,rfl,hc,hw,h4,h5,h6,h7,h8,aa,h9⟩
 ·exact .inl h3
 ·obtain⟨ab,ae⟩:=hb g (by simp[Zp,Kt hc]) aa;exact .inr ⟨g,cur,e,rfl,hc,hw,h4,h5,h6,h7,by simp at h8 ⊢;exact fun hi=>h8 (ae hi),ab,Zf4 hf h9⟩
theorem Zmw {ids:List Nat} {id k:Nat} (hk:ids[k]?=some id) {o:Zf} (ho:XX Γ w I F A id o) {I' F' A' : Nat→Prop} (hI:∀ b,I b→I' b) (hF:∀ b,Blk Γ w id o b→F' b) (hA:∀ b,I b→A b→A' b)
  (hn:∀ b,Blk Γ w id o b→I' b→I b):XX (ZbH ids Γ) w I' F' A' k (W2 ids o):=by
 cases o with
 | gone=>
  obtain⟨r,hr⟩:=ho;exact⟨r,by rw[Yj hk,hr]⟩
 | tree sz ns xs lk=>
  obtain⟨ad,n,c,h1,h2,h3⟩:=ho;refine⟨ad,n,c,by rw[Yj hk,h1],?_,XF.lose (XF.kill (Γ':=Γ) h3 (fun _ _ _ h=>h) fun _ _=>rfl)⟩;rw[V6,V7];refine h2.mono fun b hb=>?_;rw[← h1] at hb;have ab : Blk Γ w id (.tree sz ns xs lk) b:=hb.elim .inl fun h=>.inr (.inl h);exact⟨rfl,hn b ab,fun _=>hF b ab⟩
 | box cs=>
  obtain⟨b,cur,e,h1,h2,h3,h4,h5,af⟩:=ho;have hb:Blk Γ w id (.box cs) b:=.inl (by rw[h1];rfl);refine⟨b,cur,e,by rw[Yj hk,h1],h2,fun hi=>h3 (hn b hb hi),hF b hb,?_,((af.mono fun x te l u v g hc hv hg=>have hB:=Or.inr (Or.inr (ZoJ h1 h2 hc hv hg));⟨rfl,hn g hB,fun _=>hF g hB⟩).map (VU _)).map (UN _)⟩;have h6:Zm (Q3 Γ w I) (cs.map (ZF ((Wf (.box cs)).filter fun i=>!ids.contains i))) cur.toList:=h5.map_left fun _ _ h=>Zfl h;refine Zai (ZbI fun ae aa=>?_) (WP hI) h6;obtain⟨y,hy,aa⟩:=Kq.1 aa;obtain⟨x,hx,rfl⟩:=Le.1 hy;obtain⟨h7,h8⟩:=Zdt _ x ae aa;have h9:ae∈Wf (.box cs):=Kq.2 ⟨x,hx,h7⟩
  simp only[List.mem_filter,KR,KK,KV,not_and,Decidable.not_not] at h8;exact h8 h9
 | row sz xs ex fz=>
  obtain⟨ad,n,c,h1,h2,h3⟩:=ho;refine⟨ad,n,c,by rw[Yj hk,h1],h2,?_⟩;rcases h3 with h3 | ⟨g,cur,e,rfl,hc,hw,h4,h5,h6,h7,h8,ag,h9⟩
  ·exact .inl h3
  ·have hb:Blk Γ w id (.row sz xs ex fz) g:=.inl (by rw[h1];simp[Zp,Kt hc]);refine .inr ⟨g,cur,e,rfl,hc,hw,h4,h5,h6,h7,?_,hF g hb,?_⟩
   ·cases fz
    ·simp at h8 ⊢;exact fun hi=>h8 (hn g hb hi)
    ·simp at h8 ⊢;exact hI g h8
   ·cases ex
    ·exact h9.mono' (WP hI) rfl
    ·simp only[Kl] at h9 ⊢;exact h9.mono' ⟨fun b hb=>⟨hI b hb.1,hA b hb.1 hb.2⟩,fun _ _=>rfl⟩ rfl
end
end Go.Abs
