/- Own text. -/
import Derived.Test.YthgciclhiaoecaaGreatAbsStep8
set_option linter.unusedVariables false
set_option linter.unusedSimpArgs false
namespace Go.Abs
open Go
section
variable {Γ Γ' : Gh} {w w' : World} {I I' : Nat→Prop}
def AV.small:AV→Bool
 | .d _=>false
 | .agg _=>false
 | .tup _=>false
 | .clo _ _=>false
 | _=>true
theorem WW {x:AV} (hs:x.small=true) (v:Value):(Rep Γ w I x v=YS Γ w I x v)∧(JW Γ w I x v=YS Γ w I x v)∧(XI Γ w I x v=YS Γ w I x v):=by
 cases x<;>first | exact⟨rfl,rfl,rfl⟩ | cases hs
theorem Yz {x:AV} (hs:x.small=true) (g:Nat→Nat) (bad:List Nat) :
  ren g x=Zfs g x∧Zex g x=Zfs g x∧kill bad x=Qd bad x∧ZS bad x=Qd bad x∧Zw x=Zl x∧Zy x=Zl x:=by
 cases x<;>first | exact⟨rfl,rfl,rfl,rfl,rfl,rfl⟩ | cases hs
def ZaU (Γ Γ' : Gh) (g:Nat→Nat) (ids:List Nat):Prop:=∀ id∈ids,∀ r,Γ id=some r→Γ' (g id)=some r
theorem ZlW {g:Nat→Nat} {x:AV} {v:Value} (hg:ZaU Γ Γ' g (Zl x)) (hk:ZT I I' w w') (h:YS Γ w I x v):YS Γ' w' I' (Zfs g x) v:=by
 cases x with
 | d x=>exact⟨h.1,h.2.mono hk⟩
 | nil=>exact h
 | nilp=>exact h
 | nili=>exact h
 | ptr id off=>obtain⟨b,h1,h2⟩:=h;exact⟨b,hg id (by simp[Zl]) _ h1,h2⟩
 | prow id sz i off=>obtain⟨b,n,c,h1,h2⟩:=h;exact⟨b,n,c,hg id (by simp[Zl]) _ h1,h2⟩
 | pim cs=>obtain⟨b,o,vs,h1,h2,h3,h4⟩:=h;exact⟨b,o,vs,h1,hk.sub b h2,h3.mono (hk.blk b h2),h4.mono hk⟩
 | own id=>obtain⟨a,n,c,sz,h1,h2⟩:=h;exact⟨a,n,c,sz,hg id (by simp[Zl]) _ h1,h2⟩
 | ownv id off n=>obtain⟨a0,m,c,sz,a,h1,h2⟩:=h;exact⟨a0,m,c,sz,a,hg id (by simp[Zl]) _ h1,h2⟩
 | bnil id e=>obtain⟨b,h1,h2⟩:=h;exact⟨b,hg id (by simp[Zl]) _ h1,h2⟩
 | bbuf a b=>exact h
 | agg cs=>exact h.elim
 | tup cs=>exact h.elim
 | clo f cs=>exact h.elim
 | junk=>exact trivial
theorem ZlX {g:Nat→Nat}:∀ {xs:List AV} {vs:List Value},ZaU Γ Γ' g (xs.flatMap Zl)→ZT I I' w w'→Zx (YS Γ w I) xs vs→Zx (YS Γ' w' I') (xs.map (Zfs g)) vs
 | [],[],_,_,_=>trivial
 | [],_ :: _,_,_,h=>h.elim
 | _ :: _,[],_,_,h=>h.elim
 | x :: xs,v :: vs,hg,hk,h=>⟨ZlW (fun id aa=>hg id (by simp[aa])) hk h.1,ZlX (fun id aa=>hg id (by simp only[KF,Ke];exact .inr aa)) hk h.2⟩
theorem ZAX {g:Nat→Nat} {x:AV} {v:Value} (hg:ZaU Γ Γ' g (Zy x)) (hk:ZT I I' w w') (h:XI Γ w I x v):XI Γ' w' I' (Zex g x) v:=by
 by_cases hs:x.small=true
 ·rw[(Yz hs g []).2.2.2.2.2] at hg;rw[(WW hs v).2.2] at h;rw[(Yz hs g []).2.1];exact(ZlW hg hk h).repB
 ·cases x with
  | clo f cs=>obtain⟨us,h1,h2⟩:=h;exact⟨us,h1,ZlX hg hk h2⟩
  | agg cs=>exact h.elim
  | tup cs=>exact h.elim
  | d x=>exact⟨h.1,h.2.mono hk⟩
  | _=>exact absurd rfl hs
theorem ZqL {g:Nat→Nat} {x:AV} {v:Value} (hg:ZaU Γ Γ' g (Zy x)) (hk:ZT I I' w w') (h:JW Γ w I x v):JW Γ' w' I' (Zex g x) v:=by
 by_cases hs:x.small=true
 ·rw[(Yz hs g []).2.2.2.2.2] at hg;rw[(WW hs v).2.1] at h;rw[(Yz hs g []).2.1];exact(ZlW hg hk h).rep2
 ·cases x with
  | clo f cs=>obtain⟨us,h1,h2⟩:=h;exact⟨us,h1,ZlX hg hk h2⟩
  | agg cs=>obtain⟨us,h1,h2⟩:=h;exact⟨us,h1,ZlX hg hk h2⟩
  | tup cs=>exact h.elim
  | d x=>exact ZuO.2 ((ZuO.1 h).mono hk)
  | _=>exact absurd rfl hs
theorem Ztg {g:Nat→Nat}:∀ {xs:List AV} {vs:List Value},ZaU Γ Γ' g (xs.flatMap Zy)→ZT I I' w w'→Zx (JW Γ w I) xs vs→Zx (JW Γ' w' I') (xs.map (Zex g)) vs
 | [],[],_,_,_=>trivial
 | [],_ :: _,_,_,h=>h.elim
 | _ :: _,[],_,_,h=>h.elim
 | x :: xs,v :: vs,hg,hk,h=>⟨ZqL (fun id aa=>hg id (by simp only[KF,Ke];exact .inl aa)) hk h.1,Ztg (fun id aa=>hg id (by simp only[KF,Ke];exact .inr aa)) hk h.2⟩
theorem Zey {g:Nat→Nat}:∀ {xs:List AV} {vs:List Value},ZaU Γ Γ' g (xs.flatMap Zy)→ZT I I' w w'→Zx (XI Γ w I) xs vs→Zx (XI Γ' w' I') (xs.map (Zex g)) vs
 | [],[],_,_,_=>trivial
 | [],_ :: _,_,_,h=>h.elim
 | _ :: _,[],_,_,h=>h.elim
 | x :: xs,v :: vs,hg,hk,h=>⟨ZAX (fun id aa=>hg id (by simp only[KF,Ke];exact .inl aa)) hk h.1,Zey (fun id aa=>hg id (by simp only[KF,Ke];exact .inr aa)) hk h.2⟩
theorem Zpu {g:Nat→Nat} {x:AV} {v:Value} (hg:ZaU Γ Γ' g (Zw x)) (hk:ZT I I' w w') (h:Rep Γ w I x v):Rep Γ' w' I' (ren g x) v:=by
 by_cases hs:x.small=true
 ·rw[(Yz hs g []).2.2.2.2.1] at hg;rw[(WW hs v).1] at h;rw[(Yz hs g []).1];exact(ZlW hg hk h).rep2.rep
 ·cases x with
  | tup vs=>obtain⟨us,h1,h2⟩:=h;exact⟨us,h1,Ztg hg hk h2⟩
  | clo f cs=>exact ZqL (g:=g) (x:=.clo f cs) hg hk h
  | agg cs=>exact ZqL (g:=g) (x:=.agg cs) hg hk h
  | d x=>exact Xq.2 ((Xq.1 h).mono hk)
  | _=>exact absurd rfl hs
theorem ZiA {bad:List Nat} {x:AV} {v:Value} (h:YS Γ w I x v):YS Γ w I (Qd bad x) v:=by
 cases x<;>simp only[Qd]<;>first | exact h | (split<;>first | exact trivial | exact h)
theorem Znd {bad:List Nat} {xs:List AV} {vs:List Value} (h:Zx (YS Γ w I) xs vs):Zx (YS Γ w I) (xs.map (Qd bad)) vs:=h.map_left fun _ _ h=>ZiA h
theorem Zne {bad:List Nat} {x:AV} {v:Value} (h:XI Γ w I x v):XI Γ w I (ZS bad x) v:=by
 by_cases hs:x.small=true
 ·rw[(WW hs v).2.2] at h;rw[(Yz hs id bad).2.2.2.1];exact(ZiA h).repB
 ·cases x with
  | clo f cs=>obtain⟨us,h1,h2⟩:=h;exact⟨us,h1,Znd h2⟩
  | agg cs=>exact h.elim
  | tup cs=>exact h.elim
  | d x=>exact h
  | _=>exact absurd rfl hs
theorem Znf {bad:List Nat} {x:AV} {v:Value} (h:JW Γ w I x v):JW Γ w I (ZS bad x) v:=by
 by_cases hs:x.small=true
 ·rw[(WW hs v).2.1] at h;rw[(Yz hs id bad).2.2.2.1];exact(ZiA h).rep2
 ·cases x with
  | clo f cs=>obtain⟨us,h1,h2⟩:=h;exact⟨us,h1,Znd h2⟩
  | agg cs=>obtain⟨us,h1,h2⟩:=h;exact⟨us,h1,Znd h2⟩
  | tup cs=>exact h.elim
  | d x=>exact h
  | _=>exact absurd rfl hs
theorem ZvS {bad:List Nat} {x:AV} {v:Value} (h:Rep Γ w I x v):Rep Γ w I (kill bad x) v:=by
 by_cases hs:x.small=true
 ·rw[(WW hs v).1] at h;rw[(Yz hs id bad).2.2.1];exact(ZiA h).rep2.rep
 ·cases x with
  | tup vs=>obtain⟨us,h1,h2⟩:=h;exact⟨us,h1,h2.map_left fun _ _ h=>Znf h⟩
  | clo f cs=>exact(Znf (bad:=bad) (x:=.clo f cs) h).rep
  | agg cs=>exact(Znf (bad:=bad) (x:=.agg cs) h).rep
  | d x=>exact h
  | _=>exact absurd rfl hs
theorem ZkC (bad:List Nat) (x:AV):∀ id∈Zl (Qd bad x),id∈Zl x∧id∉bad:=by
 intro id aa;cases x<;>simp only[Qd] at aa<;>first
  | (simp[Zl] at aa;done)
  | (split at aa
     ·simp [Zl] at aa
     ·rename_i hb;simp[Zl] at aa hb ⊢;first | (subst aa;simpa using hb) | (rcases aa with rfl | rfl<;>simp[hb]))
theorem Zft (bad:List Nat) (xs:List AV):∀ id∈(xs.map (Qd bad)).flatMap Zl,id∈xs.flatMap Zl∧id∉bad:=by
 intro id aa;obtain⟨y,hy,aa⟩:=Ku.1 aa;obtain⟨x,hx,rfl⟩:=Li.1 hy;obtain⟨h1,h2⟩:=ZkC bad x id aa;exact⟨Ku.2 ⟨x,hx,h1⟩,h2⟩
theorem ZkD (bad:List Nat) (x:AV):∀ id∈Zy (ZS bad x),id∈Zy x∧id∉bad:=by
 intro id aa;by_cases hs:x.small=true
 ·rw[(Yz hs (fun k=>k) bad).2.2.2.1] at aa;have ab : Zy (Qd bad x)=Zl (Qd bad x):=by
   cases x<;>simp only[Qd]<;>first | rfl | (split<;>rfl) | (cases hs)
  rw[ab] at aa;rw[(Yz hs (fun k=>k) bad).2.2.2.2.2];exact ZkC bad x id aa
 ·cases x with
  | agg cs=>exact Zft bad cs id aa
  | clo f cs=>exact Zft bad cs id aa
  | tup cs=>simp[ZS,Qd,Zy,Zl] at aa
  | d x=>simp[ZS,Qd,Zy,Zl] at aa
  | _=>exact absurd rfl hs
theorem Zth (bad:List Nat) (x:AV):∀ id∈Zw (kill bad x),id∈Zw x∧id∉bad:=by
 intro id aa;by_cases hs:x.small=true
 ·rw[(Yz hs (fun k=>k) bad).2.2.1] at aa;have ab : Zw (Qd bad x)=Zl (Qd bad x):=by
   cases x<;>simp only[Qd]<;>first | rfl | (split<;>rfl) | (cases hs)
  rw[ab] at aa;rw[(Yz hs (fun k=>k) bad).2.2.2.2.1];exact ZkC bad x id aa
 ·cases x with
  | tup vs=>
   obtain⟨y,hy,aa⟩:=Ku.1 aa;obtain⟨x,hx,rfl⟩:=Li.1 hy;obtain⟨h1,h2⟩:=ZkD bad x id aa;exact⟨Ku.2 ⟨x,hx,h1⟩,h2⟩
  | agg cs=>exact Zft bad cs id aa
  | clo f cs=>exact Zft bad cs id aa
  | d x=>simp[kill,ZS,Qd,Zw,Zy,Zl] at aa
  | _=>exact absurd rfl hs
end
theorem JS (hp:Hp):∀ (n:Nat) (todo aa:List Nat),aa.Nodup→(QZ hp n todo aa).Nodup∧(∀ id∈aa,id∈QZ hp n todo aa)∧(∀ id∈QZ hp n todo aa,id∈aa∨∃ o,lkp hp id=some o)
 | 0,todo,aa,h=>by simp only[QZ];exact⟨h,fun _ h=>h,fun _ h=>.inl h⟩
 | n+1,[],aa,h=>by simp only[QZ];exact⟨h,fun _ h=>h,fun _ h=>.inl h⟩
 | n+1,id :: todo,aa,h=>by
  simp only[QZ];split
  ·exact JS hp n todo aa h
  ·rename_i hc;cases hl:lkp hp id with
   | none=>simp only[J1];exact JS hp n todo aa h
   | some o=>
    simp only[J1];have ab:(aa++[id]).Nodup:=by
     rw[L3];refine⟨h,by simp,?_⟩;intro a ha b hb;simp at hb;subst hb;intro e;subst e;simp at hc;exact hc ha
    obtain⟨h1,h2,h3⟩:=JS hp n (todo++JR o) (aa++[id]) ab;refine⟨h1,fun x hx=>h2 x (by simp[hx]),fun x hx=>?_⟩;rcases h3 x hx with h4 | h4
    ·simp at h4;rcases h4 with h4 | rfl
     ·exact .inl h4
     ·exact .inr ⟨o,hl⟩
    ·exact .inr h4
theorem ZlY:∀ {ids:List Nat} {id:Nat},id∈ids→V4 ids id<ids.length∧ids[V4 ids id]?=some id
 | [],_,h=>by simp at h
 | x :: r,id,h=>by
  simp only[V4];split
  ·rename_i e;subst e;simp
  ·rename_i e;rcases Kf.1 h with h | h
   ·exact absurd h.symm e
   ·obtain⟨h1,h2⟩:=ZlY h;exact⟨by simp;omega,by simpa using h2⟩
theorem ZiB:∀ {ids:List Nat},ids.Nodup→∀ {k id:Nat},ids[k]?=some id→V4 ids id=k
 | [],_,k,id,h=>by simp at h
 | x :: r,hn,k,id,h=>by
  rw[Lg] at hn;cases k with
  | zero=>simp at h;subst h;simp[V4]
  | succ k=>
   simp at h;have aa:x≠id:=fun e=>hn.1 (e ▸ Kb h);simp only[V4,Kg aa,ZiB hn.2 h]
def Zzg {α:Type} (b:Option α):Option α→Option α
 | some v=>some v
 | none=>b
theorem ZlZ {α:Type}:∀ (l:List (Nat×α)) (k:Nat) (v:α) (t:Nat),lkp (l++[(k,v)]) t=Zzg (if k=t then some v else none) (lkp l t)
 | [],k,v,t=>by simp[lkp,Zzg]
 | (j,x) :: l,k,v,t=>by
  by_cases h:j=t
  ·simp[lkp,h,Zzg]
  ·simp[lkp,h,ZlZ l k v t]
theorem JT:∀ (l:List Zn) (k i:Nat),lkp (WD k l) i=if k≤i then l[i-k]? else none
 | [],k,i=>by simp[WD,lkp]
 | o :: r,k,i=>by
  simp only[WD,ZlZ,JT r];by_cases h1:k=i
  ·subst h1;simp[Zzg,Nat.not_succ_le_self]
  ·by_cases h2:k≤i
   ·rw[Kg h1,Kj (by omega),Kj h2];have:i-k=(i-(k+1))+1:=by omega
    rw[this];simp;cases r[i-(k+1)]? <;> rfl
   ·rw[Kg h1,Kg (by omega),Kg h2];rfl
theorem ZqM (hp:Hp):∀ (ids:List Nat) (k:Nat),(Zd9 hp ids)[k]?=(ids[k]?).map fun id=>Zww (lkp hp id)
 | [],k=>by simp[Zd9]
 | id :: r,0=>by simp[Zd9]
 | id :: r,k+1=>by simp[Zd9,ZqM hp r k]
end Go.Abs
set_option linter.unusedVariables false
set_option linter.unusedSimpArgs false
namespace Go.Abs
open Go
structure Pre (F A I:Nat→Prop) (Γ:Gh) (h:List Zn) (as:List AV) (args:List Value) (w:World):Prop where
 args:Zx (Rep Γ w I) as args
 objs:Zaz Γ w I F A (WD 0 h)
 inj:∀ i j o o' b,lkp (WD 0 h) i=some o→lkp (WD 0 h) j=some o'→Blk Γ w i o b→Blk Γ w j o' b→i=j
 bound:∀ b,I b→b<w.heap.size
 fresh:∀ b,w.heap.size≤b→F b
 own:∀ b,F b→A b
 names:∀ id,h.length≤id→Γ id=none
 glob:ZkO I w
structure Back (F A I:Nat→Prop) (Γ:Gh) (w:World) (hs:List Zn) (res:AV) (I' : Nat→Prop) (Γ' : Gh) (v:Value) (w' : World):Prop where
 heads:Qj Γ Γ'
 keeps:ZT I I' w w'
 sub:∀ b,I' b→I b∨F b
 fr:Fr F w w'
 res:Rep Γ' w' I' res v
 objs:Zaz Γ' w' I' F A (WD 0 hs)
 inj:∀ i j o o' b,lkp (WD 0 hs) i=some o→lkp (WD 0 hs) j=some o'→Blk Γ' w' i o b→Blk Γ' w' j o' b→i=j
 bound:∀ b,I' b→b<w'.heap.size
 names:∀ id,hs.length≤id→Γ' id=none
def Enters (P:Program) (f:FuncId):Prop:=∃ fn,P.funcs[f]?=some fn∧(fn.name == "runtime.NumGoroutine")=false∧fn.body.isNone=false
def ZqN (P:Program) (f:FuncId) (as:List AV) (h:List Zn) (res:AV) (hs:List Zn):Prop:=
 Enters P f∧∀ (F A I:Nat→Prop) (Γ:Gh) (args:List Value) (w:World),Pre F A I Γ h as args w→Calls P f args.toArray w fun e w'=>∃ v I' Γ',e=.returned v∧Back F A I Γ w hs res I' Γ' v w'
def Qi (P:Program) (C:Orc):Prop:=∀ f as h res hs,C f as h=some (res,hs)→ZqN P f as h res hs
section
variable {P:Program} {nt:Nat} {U:Nat→Prop} {F A I:Nat→Prop} {Γ:Gh} {sl:Sl} {hp:Hp} {a:Act} {w:World}
def ZvT (P:Program) (nt:Nat) (F A I:Nat→Prop) (Γ:Gh) (U:Nat→Prop) (sl:Sl) (hp:Hp) (a:Act) (w:World) (o:Oper) (base:Nat) (ce:Zf):Prop:=
 ∀ (K:Act→World→Prop) (Q:Exit→Act→World→Prop),(∀ u w',W5 nt F A I Γ w (Zab U base) (ce.on o.dst sl hp).1 (ce.on o.dst sl hp).2 (a.put o.dst u) w'→K (a.put o.dst u) w')→o.wp P a w K Q
theorem Zei.opWp {o:Oper} {base:Nat} {ce:Zf} (h:Zei P nt F A I Γ U sl hp a w o base ce):ZvT P nt F A I Γ U sl hp a w o base ce:=by
 intro K Q hK;obtain⟨u,w',h1,h2⟩:=h;exact h1.wp (hK u w' h2)
def ZsC (Γ:Gh) (w:World) (hp:Hp) (I' : Nat→Prop) (ids:List Nat):Prop:=∀ id∈ids,∀ o b,lkp hp id=some o→Zh2 (some o)=true→Blk Γ w id o b→I' b
theorem ZsC.sub {I' : Nat→Prop} {ids aa : List Nat} (h:ZsC Γ w hp I' ids) (hs:∀ id∈aa,id∈ids):ZsC Γ w hp I' aa:=fun id ab=>h id (hs id ab)
theorem Zxk (h:Zaz Γ w I F A hp) (ids:List Nat):ZsC Γ w hp (Zih Γ w hp I ids) ids:=by
 intro id aa o b hl hr hb;cases o with
 | box cs=>cases hr
 | gone=>exact hb.isGone.elim
 | tree sz ns xs lk=>exact .inr ⟨id,aa,_,hl,rfl,hb⟩
 | row sz xs ex fz=>
  cases fz with
  | false=>exact .inr ⟨id,aa,_,hl,rfl,hb⟩
  | true=>
   have hb:=hb.row;obtain⟨ad,n,c,h1,h2,h3⟩:=h id _ hl;rw[h1] at hb;obtain⟨ae,rfl,rfl,hc⟩:=ZtS hb;rcases h3 with h3 | ⟨g,cur,e,hg,h4,h5,h6,h7,h8,h9,ab,af⟩
   ·exact absurd h3.2 hc
   ·cases hg;exact .inl (by simpa using ab)
theorem ZvU (h:Zaz Γ w I F A hp) {I' : Nat→Prop} (hI:∀ b,I b→I' b) {id:Nat} (aa:ZsC Γ w hp I' [id]) {xs:List D} (he:WU (lkp hp id)=some xs) :
  ∃ ad n c sz,Γ id=some (.row ad n c sz)∧n=xs.length∧n≤c∧((n=0∧c=0)∨∃ g,ad=some ⟨g,0,none⟩∧I' g∧0<sz∧W6 w I' g sz xs 0):=by
 unfold WU at he;split at he
 ·rename_i sz af ex fz hl;cases he;obtain⟨ad,n,c,h1,h2,h3⟩:=h id _ hl;refine⟨ad,n,c,sz,h1,h2,?_⟩;rcases h3 with h3 | ⟨g,cur,e,rfl,hc,hw,h4,h5,h6,h7,h8,hF,h9⟩
  ·exact⟨by omega,.inl h3⟩
  ·refine⟨h4,.inr ⟨g,rfl,aa id (by simp) _ g hl rfl (.inl (by rw[h1];simp[ZA,KA hc])),h7,?_⟩⟩;cases ex
   ·exact h9.mono' (ZaH hI) rfl
   ·exact h9.mono' ⟨fun b hb=>hI b hb.1,fun _ _=>rfl⟩ rfl
 ·rename_i sz ns af hl;cases he;obtain⟨ad,n,c,h1,⟨h2,h3⟩,_⟩:=h id _ hl;refine⟨ad,n,c,sz,h1,h2,?_⟩;rcases h3 with h3 | ⟨g,cur,e,B,rfl,hc,hw,h4,h5,h6,ab,h8,h9,ag⟩
  ·exact⟨by omega,.inl ⟨h3.1,h3.2.1⟩⟩
  ·have ae:ZA (Γ id)=some g:=by rw[h1];simp[ZA,KA hc]
   exact⟨h4,.inr ⟨g,rfl,aa id (by simp) _ g hl rfl (.inl ae),ab,h8.rep fun b hb=>aa id (by simp) _ b hl rfl (.inr (.inl ⟨g,B,ae,h8,hb⟩))⟩⟩
 ·cases he
theorem Zus (h:Zaz Γ w I F A hp) {I' : Nat→Prop} (hI:∀ b,I b→I' b) {x:AV} {v:Value} (hx:Rep Γ w I x v) (aa:ZsC Γ w hp I' (Zdp x)) {d:D} (hd:ZiZ hp x=some d):Xf w I' d v:=by
 unfold ZiZ at hd;split at hd
 ·cases hd;exact(Xq.1 hx).mono (ZaH hI)
 ·cases hd;obtain⟨ad,rfl⟩:=hx;exact⟨ad,0,rfl,by simp,.inl rfl⟩
 ·rename_i id;obtain⟨xs,h1,hd⟩:=Za hd;cases hd;obtain⟨ad,n,c,sz,h2,h3,h4,h5⟩:=ZvU h hI aa h1;obtain⟨aj,n',c',af,h6,rfl⟩:=hx;rw[h2] at h6;cases h6;refine⟨ad,c,by rw[h3],by omega,?_⟩;rcases h5 with h5 | ⟨g,rfl,h7,h8,h9⟩
  ·exact .inl (Kp (by omega))
  ·exact .inr ⟨g,0,sz,rfl,h7,h8,h9⟩
 ·rename_i id off n;obtain⟨xs,h1,hd⟩:=Za hd;cases hd;obtain⟨ad,m,c,sz,h2,h3,h4,h5⟩:=ZvU h hI aa h1;obtain⟨a0,m',c',af,av,h6,h7,h8,rfl,h9,ab⟩:=hx;rw[h2] at h6;cases h6;have ae:n=((xs.drop off).take n).length:=by simp;omega
  refine⟨av,c-off,by rw[← ae],by omega,?_⟩;by_cases hn:n=0
  ·exact .inl (Kp (by omega))
  ·rcases h5 with h5 | ⟨g,rfl,ag,ah,ai⟩
   ·omega
   ·rcases ab with ab | ab
    ·subst ab;exact .inr ⟨g,off*sz,sz,by simp[Ut],ag,ah,by simpa using ZmC ai off n⟩
    ·omega
 ·cases hd
theorem Zyv (h:Zaz Γ w I F A hp) {I' : Nat→Prop} (hI:∀ b,I b→I' b):∀ {xs:List AV} {vs:List Value} {ds:List D},Zx (YS Γ w I) xs vs→ZsC Γ w hp I' (xs.flatMap Zdp)→Qy (ZiZ hp) xs=some ds→Zaa D.one ds=true→QH w I' ds vs
 | [],[],ds,_,_,hd,_=>by simp only[Qy] at hd;cases hd;simp[QH]
 | [],_ :: _,_,h,_,_,_=>h.elim
 | _ :: _,[],_,h,_,_,_=>h.elim
 | x :: xs,v :: vs,ds,hr,hl,hd,h1=>by
  simp only[Qy] at hd;obtain⟨d,h2,hd⟩:=Za hd;obtain⟨ab,h3,hd⟩:=Za hd;cases hd;simp only[Zaa,Kd] at h1;refine⟨v,vs,rfl,h1.1,(Xf.one h1.1).1 (Zus h hI hr.1.rep2.rep (hl.sub fun id aa=>by simp only[KF,Ke];exact .inl aa) h2),Zyv h hI hr.2 (hl.sub fun id aa=>by simp only[KF,Ke];exact .inr aa) h3 h1.2⟩
theorem Zxl (h:Zaz Γ w I F A hp) {I' : Nat→Prop} (hI:∀ b,I b→I' b) {x:AV} {v:Value} (hx:Rep Γ w I x v) (aa:ZsC Γ w hp I' (Zfr x)) {d:D} (hd:toD hp x=some d):Xf w I' d v:=by
 unfold toD at hd;split at hd
 ·rename_i cs;obtain⟨ds,h1,hd⟩:=Za hd;split at hd
  ·rename_i h2;cases hd;obtain⟨vs,rfl,h3⟩:=hx;exact⟨vs,rfl,Zyv h hI h3 aa h1 h2⟩
  ·cases hd
 ·rename_i ab;refine Zus h hI hx ?_ hd;cases x<;>first | exact aa | (exact absurd rfl (ab _))
def Zyw (x y:AV):List Nat:=match y with
 | .d _=>Zfr x
 | _=>[]
theorem ZCj (h:Zaz Γ w I F A hp) {I' : Nat→Prop} (hI:∀ b,I b→I' b) {m:Bool} {x y:AV} {v:Value} (hx:Rep Γ w I x v) (ha:Zdb hp m x=some y) (aa:ZsC Γ w hp I' (Zyw x y)):Rep Γ w I' y v:=by
 have keep:Rep Γ w I' x v:=hx.mono (Qj.refl Γ) (ZaH hI);unfold Zdb at ha;split at ha
 ·cases ha;exact keep
 ·cases ha;exact keep
 ·cases ha;exact keep
 ·cases ha;exact keep
 ·cases ha;exact keep
 ·rename_i id;cases m
  ·simp only[ZfD,asD] at ha;obtain⟨d,h1,ha⟩:=Za ha;cases ha;exact Xq.2 (Zus h hI hx aa h1)
  ·simp only[ZfD] at ha;cases ha;exact keep
 ·cases m
  ·simp only[Zh1] at ha;cases ha;exact Xq.2 (Zxl h hI hx aa rfl)
  ·simp only[Zh1] at ha;cases ha;exact keep
 ·cases ha;exact keep
 ·cases m
  ·simp only[ZfE,asD] at ha;obtain⟨d,h1,ha⟩:=Za ha;cases ha;exact Xq.2 (Zxl h hI hx aa h1)
  ·simp only[ZfE] at ha;split at ha
   ·cases ha
   ·cases ha;exact keep
 ·obtain⟨d,h1,ha⟩:=Za ha;cases ha;exact Xq.2 (Zxl h hI hx aa h1)
theorem Zon (x y:AV) (xs ys:List AV):YN (x :: xs) (y :: ys)=Zyw x y++YN xs ys:=by
 cases y<;>simp[YN,Zyw]
theorem Zyx (h:Zaz Γ w I F A hp) {I' : Nat→Prop} (hI:∀ b,I b→I' b) (m:Nat→Bool):∀ {xs ys:List AV} {vs:List Value} (i:Nat),Zx (Rep Γ w I) xs vs→args hp m i xs=some ys→ZsC Γ w hp I' (YN xs ys)→Zx (Rep Γ w I') ys vs
 | [],ys,[],i,_,ha,_=>by simp only[args] at ha;cases ha;exact trivial
 | [],_,_ :: _,_,h,_,_=>h.elim
 | _ :: _,_,[],_,h,_,_=>h.elim
 | x :: xs,ys,v :: vs,i,hr,ha,hl=>by
  simp only[args] at ha;obtain⟨y,h1,ha⟩:=Za ha;obtain⟨ab,h2,ha⟩:=Za ha;cases ha;rw[Zon] at hl;exact⟨ZCj h hI hr.1 h1 (hl.sub fun id aa=>by simp[aa]),Zyx h hI m (i+1) hr.2 h2 (hl.sub fun id aa=>by simp[aa])⟩
def ZhM (ids:List Nat) (Γ:Gh):Gh:=fun k=>match ids[k]? with
 | some id=>Γ id
 | none=>none
theorem Vu {ids:List Nat} {k id:Nat} (h:ids[k]?=some id):ZhM ids Γ k=Γ id:=by simp[ZhM,h]
theorem ZhN {ids l:List Nat} (h:∀ id∈l,id∈ids):ZaU Γ (ZhM ids Γ) (V4 ids) l:=by
 intro id aa r hr;rw[Vu (ZlY (h id aa)).2];exact hr
theorem Zoo {S S' : Nat→Prop} {b sz:Nat} {ys:List D} (hf:Zaa D.flat ys=true) {o:Nat} (h:W6 w S b sz ys o):W6 w S' b sz ys o:=by
 rw[XW] at h ⊢;intro i x hx;obtain⟨vs,h1,h2,h3⟩:=h i x hx;refine⟨vs,h1,h2,?_⟩;have aa : x.flat=true:=by
  clear h h1 h2 h3
  induction ys generalizing i with
  | nil=>simp at hx
  | cons y ys ih=>
   simp only[Zaa,Kd] at hf;cases i with
   | zero=>simp at hx;subst hx;exact hf.1
   | succ i=>simp at hx;exact ih hf.2 i hx
 have one:∀ {y:D} {v:Value},y.plain=true→ZR w S y [v]→ZR w S' y [v]:=by
  intro y v hy hv;cases y<;>first | (simpa [ZR] using hv) | (simp[D.plain] at hy)
 have all:∀ (ds:List D) (us:List Value),Zaa D.plain ds=true→QH w S ds us→QH w S' ds us:=by
  intro ds
  induction ds with
  | nil=>intro us _ h;simpa [QH] using h
  | cons d ds ih=>
   intro us hp h;simp only[Zaa,Kd] at hp;obtain⟨v,r,h1,h2,h3,h4⟩:=h;exact⟨v,r,h1,h2,one hp.1 h3,ih r hp.2 h4⟩
 have:=all x.cells vs aa h3.cells;exact ZsN (QQ.1 this)
theorem Zmd.give {I' F' A' : Nat→Prop} {ad:Option Addr} {n c sz:Nat} {ys:List D} (h:Zmd w I F A ad n c sz ys true false) (hf:Zaa D.flat ys=true)
  (hb:∀ b,ZA (some (.row ad n c sz))=some b→F b→F' b∧(I' b→I b)):Zmd w I' F' A' ad n c sz ys true false:=by
 obtain⟨h2,h3⟩:=h;refine⟨h2,?_⟩;rcases h3 with h3 | ⟨g,cur,e,rfl,hc,hw,h4,h5,h6,h7,h8,aa,h9⟩
 ·exact .inl h3
 ·obtain⟨ab,ae⟩:=hb g (by simp[ZA,KA hc]) aa;exact .inr ⟨g,cur,e,rfl,hc,hw,h4,h5,h6,h7,by simp at h8 ⊢;exact fun hi=>h8 (ae hi),ab,Zoo hf h9⟩
theorem ZvV {ids:List Nat} {id k:Nat} (hk:ids[k]?=some id) {o:Zn} (ho:YR Γ w I F A id o) {I' F' A' : Nat→Prop} (hI:∀ b,I b→I' b) (hF:∀ b,Blk Γ w id o b→F' b) (hA:∀ b,I b→A b→A' b)
  (hn:∀ b,Blk Γ w id o b→I' b→I b):YR (ZhM ids Γ) w I' F' A' k (Zbd ids o):=by
 cases o with
 | gone=>
  obtain⟨r,hr⟩:=ho;exact⟨r,by rw[Vu hk,hr]⟩
 | tree sz ns xs lk=>
  obtain⟨ad,n,c,h1,h2,h3⟩:=ho;refine⟨ad,n,c,by rw[Vu hk,h1],?_,Yn.lose (Yn.kill (Γ':=Γ) h3 (fun _ _ _ h=>h) fun _ _=>rfl)⟩;rw[U7,U8];refine h2.mono fun b hb=>?_;rw[← h1] at hb;have ab : Blk Γ w id (.tree sz ns xs lk) b:=hb.elim .inl fun h=>.inr (.inl h);exact⟨rfl,hn b ab,fun _=>hF b ab⟩
 | box cs=>
  obtain⟨b,cur,e,h1,h2,h3,h4,h5,af⟩:=ho;have hb:Blk Γ w id (.box cs) b:=.inl (by rw[h1];rfl);refine⟨b,cur,e,by rw[Vu hk,h1],h2,fun hi=>h3 (hn b hb hi),hF b hb,?_,((af.mono fun x te l u v g hc hv hg=>have hB:=Or.inr (Or.inr (Zyd h1 h2 hc hv hg));⟨rfl,hn g hB,fun _=>hF g hB⟩).map (UO _)).map (Zb2 _)⟩;have h6:Zx (XI Γ w I) (cs.map (ZS ((JR (.box cs)).filter fun i=>!ids.contains i))) cur.toList:=h5.map_left fun _ _ h=>Zne h;refine Zey (ZhN fun ae aa=>?_) (ZaH hI) h6;obtain⟨y,hy,aa⟩:=Ku.1 aa;obtain⟨x,hx,rfl⟩:=Li.1 hy;obtain⟨h7,h8⟩:=ZkD _ x ae aa;have h9:ae∈JR (.box cs):=Ku.2 ⟨x,hx,h7⟩
  simp only[LU,La,KS,Lf,not_and,Decidable.not_not] at h8;exact h8 h9
 | row sz xs ex fz=>
  obtain⟨ad,n,c,h1,h2,h3⟩:=ho;refine⟨ad,n,c,by rw[Vu hk,h1],h2,?_⟩;rcases h3 with h3 | ⟨g,cur,e,rfl,hc,hw,h4,h5,h6,h7,h8,ag,h9⟩
  ·exact .inl h3
  ·have hb:Blk Γ w id (.row sz xs ex fz) g:=.inl (by rw[h1];simp[ZA,KA hc]);refine .inr ⟨g,cur,e,rfl,hc,hw,h4,h5,h6,h7,?_,hF g hb,?_⟩
   ·cases fz
    ·simp at h8 ⊢;exact fun hi=>h8 (hn g hb hi)
    ·simp at h8 ⊢;exact hI g h8
   ·cases ex
    ·exact h9.mono' (ZaH hI) rfl
    ·simp only[Km] at h9 ⊢;exact h9.mono' ⟨fun b hb=>⟨hI b hb.1,hA b hb.1 hb.2⟩,fun _ _=>rfl⟩ rfl
end
end Go.Abs
