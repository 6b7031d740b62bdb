/- Own text. -/
import Derived.Test.YtcefneehgbiebaaGreatDoorAbsStep8
set_option linter.unusedVariables false
set_option linter.unusedSimpArgs false
namespace Go.Abs
open Go
section
variable {Γ Γ' : Gh} {w w' : World} {I I' : Nat→Prop}
def AV.small:AV→Bool
 | .d _=>false
 | .agg _=>false
 | .tup _=>false
 | .clo _ _=>false
 | _=>true
theorem Uh {x:AV} (hs:x.small=true) (v:Value):(Rep Γ w I x v=Vj Γ w I x v)∧(Zac Γ w I x v=Vj Γ w I x v)∧(XO Γ w I x v=Vj Γ w I x v):=by
 cases x<;>first | exact⟨rfl,rfl,rfl⟩ | cases hs
theorem YM {x:AV} (hs:x.small=true) (g:Nat→Nat) (bad:List Nat) :
  ren g x=ZeQ g x∧ZeR g x=ZeQ g x∧kill bad x=Qf bad x∧ZV bad x=Qf bad x∧ZD x=Zn x∧ZE x=Zn x:=by
 cases x<;>first | exact⟨rfl,rfl,rfl,rfl,rfl,rfl⟩ | cases hs
def Zbu (Γ Γ' : Gh) (g:Nat→Nat) (ids:List Nat):Prop:=∀ id∈ids,∀ r,Γ id=some r→Γ' (g id)=some r
theorem ZjS {g:Nat→Nat} {x:AV} {v:Value} (hg:Zbu Γ Γ' g (Zn x)) (hk:ZR I I' w w') (h:Vj Γ w I x v):Vj Γ' w' I' (ZeQ g x) v:=by
 cases x with
 | d x=>exact⟨h.1,h.2.mono hk⟩
 | nil=>exact h
 | nilp=>exact h
 | nili=>exact h
 | ptr id off=>obtain⟨b,h1,h2⟩:=h;exact⟨b,hg id (by simp[Zn]) _ h1,h2⟩
 | prow id sz i off=>obtain⟨b,n,c,h1,h2⟩:=h;exact⟨b,n,c,hg id (by simp[Zn]) _ h1,h2⟩
 | pim cs=>obtain⟨b,o,vs,h1,h2,h3,h4⟩:=h;exact⟨b,o,vs,h1,hk.sub b h2,h3.mono (hk.blk b h2),h4.mono hk⟩
 | own id=>obtain⟨a,n,c,sz,h1,h2⟩:=h;exact⟨a,n,c,sz,hg id (by simp[Zn]) _ h1,h2⟩
 | ownv id off n=>obtain⟨a0,m,c,sz,a,h1,h2⟩:=h;exact⟨a0,m,c,sz,a,hg id (by simp[Zn]) _ h1,h2⟩
 | sub id nm=>obtain⟨⟨r,h0⟩,a,n,c,sz,h1,h2⟩:=h;exact⟨⟨r,hg id (by simp[Zn]) _ h0⟩,a,n,c,sz,hg nm (by simp[Zn]) _ h1,h2⟩
 | bnil id e=>obtain⟨b,h1,h2⟩:=h;exact⟨b,hg id (by simp[Zn]) _ h1,h2⟩
 | bbuf a b=>exact h
 | agg cs=>exact h.elim
 | tup cs=>exact h.elim
 | clo f cs=>exact h.elim
 | junk=>exact trivial
theorem ZjT {g:Nat→Nat}:∀ {xs:List AV} {vs:List Value},Zbu Γ Γ' g (xs.flatMap Zn)→ZR I I' w w'→Zu (Vj Γ w I) xs vs→Zu (Vj Γ' w' I') (xs.map (ZeQ g)) vs
 | [],[],_,_,_=>trivial
 | [],_ :: _,_,_,h=>h.elim
 | _ :: _,[],_,_,h=>h.elim
 | x :: xs,v :: vs,hg,hk,h=>⟨ZjS (fun id aa=>hg id (by simp[aa])) hk h.1,ZjT (fun id aa=>hg id (by simp only[KJ,Kg];exact .inr aa)) hk h.2⟩
theorem ZAC {g:Nat→Nat} {x:AV} {v:Value} (hg:Zbu Γ Γ' g (ZE x)) (hk:ZR I I' w w') (h:XO Γ w I x v):XO Γ' w' I' (ZeR g x) v:=by
 by_cases hs:x.small=true
 ·rw[(YM hs g []).2.2.2.2.2] at hg;rw[(Uh hs v).2.2] at h;rw[(YM hs g []).2.1];exact(ZjS hg hk h).repB
 ·cases x with
  | clo f cs=>obtain⟨us,h1,h2⟩:=h;exact⟨us,h1,ZjT hg hk h2⟩
  | agg cs=>exact h.elim
  | tup cs=>exact h.elim
  | d x=>exact⟨h.1,h.2.mono hk⟩
  | _=>exact absurd rfl hs
theorem Zoq {g:Nat→Nat} {x:AV} {v:Value} (hg:Zbu Γ Γ' g (ZE x)) (hk:ZR I I' w w') (h:Zac Γ w I x v):Zac Γ' w' I' (ZeR g x) v:=by
 by_cases hs:x.small=true
 ·rw[(YM hs g []).2.2.2.2.2] at hg;rw[(Uh hs v).2.1] at h;rw[(YM hs g []).2.1];exact(ZjS hg hk h).rep2
 ·cases x with
  | clo f cs=>obtain⟨us,h1,h2⟩:=h;exact⟨us,h1,ZjT hg hk h2⟩
  | agg cs=>obtain⟨us,h1,h2⟩:=h;exact⟨us,h1,ZjT hg hk h2⟩
  | tup cs=>exact h.elim
  | d x=>exact Zpg.2 ((Zpg.1 h).mono hk)
  | _=>exact absurd rfl hs
theorem Zsr {g:Nat→Nat}:∀ {xs:List AV} {vs:List Value},Zbu Γ Γ' g (xs.flatMap ZE)→ZR I I' w w'→Zu (Zac Γ w I) xs vs→Zu (Zac Γ' w' I') (xs.map (ZeR g)) vs
 | [],[],_,_,_=>trivial
 | [],_ :: _,_,_,h=>h.elim
 | _ :: _,[],_,_,h=>h.elim
 | x :: xs,v :: vs,hg,hk,h=>⟨Zoq (fun id aa=>hg id (by simp only[KJ,Kg];exact .inl aa)) hk h.1,Zsr (fun id aa=>hg id (by simp only[KJ,Kg];exact .inr aa)) hk h.2⟩
theorem ZeS {g:Nat→Nat}:∀ {xs:List AV} {vs:List Value},Zbu Γ Γ' g (xs.flatMap ZE)→ZR I I' w w'→Zu (XO Γ w I) xs vs→Zu (XO Γ' w' I') (xs.map (ZeR g)) vs
 | [],[],_,_,_=>trivial
 | [],_ :: _,_,_,h=>h.elim
 | _ :: _,[],_,_,h=>h.elim
 | x :: xs,v :: vs,hg,hk,h=>⟨ZAC (fun id aa=>hg id (by simp only[KJ,Kg];exact .inl aa)) hk h.1,ZeS (fun id aa=>hg id (by simp only[KJ,Kg];exact .inr aa)) hk h.2⟩
theorem Zob {g:Nat→Nat} {x:AV} {v:Value} (hg:Zbu Γ Γ' g (ZD x)) (hk:ZR I I' w w') (h:Rep Γ w I x v):Rep Γ' w' I' (ren g x) v:=by
 by_cases hs:x.small=true
 ·rw[(YM hs g []).2.2.2.2.1] at hg;rw[(Uh hs v).1] at h;rw[(YM hs g []).1];exact(ZjS hg hk h).rep2.rep
 ·cases x with
  | tup vs=>obtain⟨us,h1,h2⟩:=h;exact⟨us,h1,Zsr hg hk h2⟩
  | clo f cs=>exact Zoq (g:=g) (x:=.clo f cs) hg hk h
  | agg cs=>exact Zoq (g:=g) (x:=.agg cs) hg hk h
  | d x=>exact QF.2 ((QF.1 h).mono hk)
  | _=>exact absurd rfl hs
theorem ZhX {bad:List Nat} {x:AV} {v:Value} (h:Vj Γ w I x v):Vj Γ w I (Qf bad x) v:=by
 cases x<;>simp only[Qf]<;>first | exact h | (split<;>first | exact trivial | exact h)
theorem Zk7 {bad:List Nat} {xs:List AV} {vs:List Value} (h:Zu (Vj Γ w I) xs vs):Zu (Vj Γ w I) (xs.map (Qf bad)) vs:=h.map_left fun _ _ h=>ZhX h
theorem Zk8 {bad:List Nat} {x:AV} {v:Value} (h:XO Γ w I x v):XO Γ w I (ZV bad x) v:=by
 by_cases hs:x.small=true
 ·rw[(Uh hs v).2.2] at h;rw[(YM hs id bad).2.2.2.1];exact(ZhX h).repB
 ·cases x with
  | clo f cs=>obtain⟨us,h1,h2⟩:=h;exact⟨us,h1,Zk7 h2⟩
  | agg cs=>exact h.elim
  | tup cs=>exact h.elim
  | d x=>exact h
  | _=>exact absurd rfl hs
theorem Zk9 {bad:List Nat} {x:AV} {v:Value} (h:Zac Γ w I x v):Zac Γ w I (ZV bad x) v:=by
 by_cases hs:x.small=true
 ·rw[(Uh hs v).2.1] at h;rw[(YM hs id bad).2.2.2.1];exact(ZhX h).rep2
 ·cases x with
  | clo f cs=>obtain⟨us,h1,h2⟩:=h;exact⟨us,h1,Zk7 h2⟩
  | agg cs=>obtain⟨us,h1,h2⟩:=h;exact⟨us,h1,Zk7 h2⟩
  | tup cs=>exact h.elim
  | d x=>exact h
  | _=>exact absurd rfl hs
theorem Zu8 {bad:List Nat} {x:AV} {v:Value} (h:Rep Γ w I x v):Rep Γ w I (kill bad x) v:=by
 by_cases hs:x.small=true
 ·rw[(Uh hs v).1] at h;rw[(YM hs id bad).2.2.1];exact(ZhX h).rep2.rep
 ·cases x with
  | tup vs=>obtain⟨us,h1,h2⟩:=h;exact⟨us,h1,h2.map_left fun _ _ h=>Zk9 h⟩
  | clo f cs=>exact(Zk9 (bad:=bad) (x:=.clo f cs) h).rep
  | agg cs=>exact(Zk9 (bad:=bad) (x:=.agg cs) h).rep
  | d x=>exact h
  | _=>exact absurd rfl hs
theorem Zi4 (bad:List Nat) (x:AV):∀ id∈Zn (Qf bad x),id∈Zn x∧id∉bad:=by
 intro id aa;cases x<;>simp only[Qf] at aa<;>first
  | (simp[Zn] at aa;done)
  | (split at aa
     ·simp [Zn] at aa
     ·rename_i hb;simp[Zn] at aa hb ⊢;first | (subst aa;simpa using hb) | (rcases aa with rfl | rfl<;>simp[hb]))
theorem ZfD (bad:List Nat) (xs:List AV):∀ id∈(xs.map (Qf bad)).flatMap Zn,id∈xs.flatMap Zn∧id∉bad:=by
 intro id aa;obtain⟨y,hy,aa⟩:=Ky.1 aa;obtain⟨x,hx,rfl⟩:=Ld.1 hy;obtain⟨h1,h2⟩:=Zi4 bad x id aa;exact⟨Ky.2 ⟨x,hx,h1⟩,h2⟩
theorem ZfE (bad:List Nat) (x:AV):∀ id∈ZE (ZV bad x),id∈ZE x∧id∉bad:=by
 intro id aa;by_cases hs:x.small=true
 ·rw[(YM hs (fun k=>k) bad).2.2.2.1] at aa;have ab : ZE (Qf bad x)=Zn (Qf bad x):=by
   cases x<;>simp only[Qf]<;>first | rfl | (split<;>rfl) | (cases hs)
  rw[ab] at aa;rw[(YM hs (fun k=>k) bad).2.2.2.2.2];exact Zi4 bad x id aa
 ·cases x with
  | agg cs=>exact ZfD bad cs id aa
  | clo f cs=>exact ZfD bad cs id aa
  | tup cs=>simp[ZV,Qf,ZE,Zn] at aa
  | d x=>simp[ZV,Qf,ZE,Zn] at aa
  | _=>exact absurd rfl hs
theorem Zla (bad:List Nat) (x:AV):∀ id∈ZD (kill bad x),id∈ZD x∧id∉bad:=by
 intro id aa;by_cases hs:x.small=true
 ·rw[(YM hs (fun k=>k) bad).2.2.1] at aa;have ab : ZD (Qf bad x)=Zn (Qf bad x):=by
   cases x<;>simp only[Qf]<;>first | rfl | (split<;>rfl) | (cases hs)
  rw[ab] at aa;rw[(YM hs (fun k=>k) bad).2.2.2.2.1];exact Zi4 bad x id aa
 ·cases x with
  | tup vs=>
   obtain⟨y,hy,aa⟩:=Ky.1 aa;obtain⟨x,hx,rfl⟩:=Ld.1 hy;obtain⟨h1,h2⟩:=ZfE bad x id aa;exact⟨Ky.2 ⟨x,hx,h1⟩,h2⟩
  | agg cs=>exact ZfD bad cs id aa
  | clo f cs=>exact ZfD bad cs id aa
  | d x=>simp[kill,ZV,Qf,ZD,ZE,Zn] at aa
  | _=>exact absurd rfl hs
end
theorem ZbI (hp:Hp):∀ (n:Nat) (todo aa:List Nat),aa.Nodup→(QM hp n todo aa).Nodup∧(∀ id∈aa,id∈QM hp n todo aa)∧(∀ id∈QM hp n todo aa,id∈aa∨∃ o,lkp hp id=some o)
 | 0,todo,aa,h=>by simp only[QM];exact⟨h,fun _ h=>h,fun _ h=>.inl h⟩
 | n+1,[],aa,h=>by simp only[QM];exact⟨h,fun _ h=>h,fun _ h=>.inl h⟩
 | n+1,id :: todo,aa,h=>by
  simp only[QM];split
  ·exact ZbI hp n todo aa h
  ·rename_i hc;cases hl:lkp hp id with
   | none=>simp only[J6];exact ZbI hp n todo aa h
   | some o=>
    simp only[J6];have ab:(aa++[id]).Nodup:=by
     rw[List.nodup_append];refine⟨h,by simp,?_⟩;intro a ha b hb;simp at hb;subst hb;intro e;subst e;simp at hc;exact hc ha
    obtain⟨h1,h2,h3⟩:=ZbI hp n (todo++ZbH o) (aa++[id]) ab;refine⟨h1,fun x hx=>h2 x (by simp[hx]),fun x hx=>?_⟩;rcases h3 x hx with h4 | h4
    ·simp at h4;rcases h4 with h4 | rfl
     ·exact .inl h4
     ·exact .inr ⟨o,hl⟩
    ·exact .inr h4
theorem ZjU:∀ {ids:List Nat} {id:Nat},id∈ids→WH ids id<ids.length∧ids[WH ids id]?=some id
 | [],_,h=>by simp at h
 | x :: r,id,h=>by
  simp only[WH];split
  ·rename_i e;subst e;simp
  ·rename_i e;rcases Kd.1 h with h | h
   ·exact absurd h.symm e
   ·obtain⟨h1,h2⟩:=ZjU h;exact⟨by simp;omega,by simpa using h2⟩
theorem ZhY:∀ {ids:List Nat},ids.Nodup→∀ {k id:Nat},ids[k]?=some id→WH ids id=k
 | [],_,k,id,h=>by simp at h
 | x :: r,hn,k,id,h=>by
  rw[Kaa] at hn;cases k with
  | zero=>simp at h;subst h;simp[WH]
  | succ k=>
   simp at h;have aa:x≠id:=fun e=>hn.1 (e ▸ Kc h);simp only[WH,Ke aa,ZhY hn.2 h]
def Zzf {α:Type} (b:Option α):Option α→Option α
 | some v=>some v
 | none=>b
theorem ZjV {α:Type}:∀ (l:List (Nat×α)) (k:Nat) (v:α) (t:Nat),lkp (l++[(k,v)]) t=Zzf (if k=t then some v else none) (lkp l t)
 | [],k,v,t=>by simp[lkp,Zzf]
 | (j,x) :: l,k,v,t=>by
  by_cases h:j=t
  ·simp[lkp,h,Zzf]
  ·simp[lkp,h,ZjV l k v t]
theorem Vh:∀ (l:List Zm) (k i:Nat),lkp (VH k l) i=if k≤i then l[i-k]? else none
 | [],k,i=>by simp[VH,lkp]
 | o :: r,k,i=>by
  simp only[VH,ZjV,Vh r];by_cases h1:k=i
  ·subst h1;simp[Zzf,Nat.not_succ_le_self]
  ·by_cases h2:k≤i
   ·rw[Ke h1,Kh (by omega),Kh h2];have:i-k=(i-(k+1))+1:=by omega
    rw[this];simp;cases r[i-(k+1)]? <;> rfl
   ·rw[Ke h1,Ke (by omega),Ke h2];rfl
theorem ZcX (hp:Hp):∀ (ids:List Nat) (k:Nat),(Zc6 hp ids)[k]?=(ids[k]?).map fun id=>Zkb (lkp hp id)
 | [],k=>by simp[Zc6]
 | id :: r,0=>by simp[Zc6]
 | id :: r,k+1=>by simp[Zc6,ZcX hp r k]
end Go.Abs
set_option linter.unusedVariables false
set_option linter.unusedSimpArgs false
namespace Go.Abs
open Go
structure Pre (F A I:Nat→Prop) (Γ:Gh) (h:List Zm) (as:List AV) (args:List Value) (w:World):Prop where
 args:Zu (Rep Γ w I) as args
 objs:Za6 Γ w I F A (VH 0 h)
 inj:∀ i j o o' b,lkp (VH 0 h) i=some o→lkp (VH 0 h) j=some o'→Blk Γ w i o b→Blk Γ w j o' b→i=j
 bound:∀ b,I b→b<w.heap.size
 fresh:∀ b,w.heap.size≤b→F b
 own:∀ b,F b→A b
 names:∀ id,h.length≤id→Γ id=none
 glob:Zjl I w
structure Zzg (F A I:Nat→Prop) (Γ:Gh) (w:World) (hs:List Zm) (res:AV) (I' : Nat→Prop) (Γ' : Gh) (v:Value) (w' : World):Prop where
 boxes:∀ id b,Γ id=some (.box b)→Γ' id=some (.box b)
 keeps:ZR I I' w w'
 sub:∀ b,I' b→I b∨F b
 fr:Fr F w w'
 res:Rep Γ' w' I' res v
 objs:Za6 Γ' w' I' F A (VH 0 hs)
 inj:∀ i j o o' b,lkp (VH 0 hs) i=some o→lkp (VH 0 hs) j=some o'→Blk Γ' w' i o b→Blk Γ' w' j o' b→i=j
 bound:∀ b,I' b→b<w'.heap.size
 names:∀ id,hs.length≤id→Γ' id=none
def ZgU (P:Program) (f:FuncId):Prop:=∃ fn,P.funcs[f]?=some fn∧(fn.name == "runtime.NumGoroutine")=false∧fn.body.isNone=false
def Zor (P:Program) (f:FuncId) (as:List AV) (h:List Zm) (res:AV) (hs:List Zm):Prop:=
 ZgU P f∧∀ (F A I:Nat→Prop) (Γ:Gh) (args:List Value) (w:World),Pre F A I Γ h as args w→Calls P f args.toArray w fun e w'=>∃ v I' Γ',e=.returned v∧Zzg F A I Γ w hs res I' Γ' v w'
def QL (P:Program) (C:Orc):Prop:=∀ f as h res hs,C f as h=some (res,hs)→Zor P f as h res hs
section
variable {P:Program} {nt:Nat} {U:Nat→Prop} {F A I:Nat→Prop} {Γ:Gh} {sl:Sl} {hp:Hp} {a:Act} {w:World}
def Zu9 (P:Program) (nt:Nat) (F A I:Nat→Prop) (Γ:Gh) (U:Nat→Prop) (sl:Sl) (hp:Hp) (a:Act) (w:World) (o:Oper) (base:Nat) (ce:Zd):Prop:=
 ∀ (K:Act→World→Prop) (Q:Exit→Act→World→Prop),(∀ u w',UZ nt F A I Γ w (Zad U base) (ce.on o.dst sl hp).1 (ce.on o.dst sl hp).2 (a.put o.dst u) w'→K (a.put o.dst u) w')→o.wp P a w K Q
theorem Zfh.opWp {o:Oper} {base:Nat} {ce:Zd} (h:Zfh P nt F A I Γ U sl hp a w o base ce):Zu9 P nt F A I Γ U sl hp a w o base ce:=by
 intro K Q hK;obtain⟨u,w',h1,h2⟩:=h;exact h1.wp (hK u w' h2)
def Zq3 (Γ:Gh) (w:World) (hp:Hp) (I' : Nat→Prop) (ids:List Nat):Prop:=∀ id∈ids,∀ o b,lkp hp id=some o→Vb (some o)=true→Blk Γ w id o b→I' b
theorem Zq3.sub {I' : Nat→Prop} {ids aa : List Nat} (h:Zq3 Γ w hp I' ids) (hs:∀ id∈aa,id∈ids):Zq3 Γ w hp I' aa:=fun id ab=>h id (hs id ab)
theorem ZwZ (h:Za6 Γ w I F A hp) (ids:List Nat):Zq3 Γ w hp (Zhm Γ w hp I ids) ids:=by
 intro id aa o b hl hr hb;cases o with
 | box cs=>cases hr
 | deep sz ns xs lk=>exact .inr ⟨id,aa,_,hl,rfl,hb⟩
 | row sz xs ex fz=>
  cases fz with
  | false=>exact .inr ⟨id,aa,_,hl,rfl,hb⟩
  | true=>
   have hb:=hb.row;obtain⟨ad,n,c,h1,h2,h3⟩:=h id _ hl;rw[h1] at hb;obtain⟨ae,rfl,rfl,hc⟩:=Zs2 hb;rcases h3 with h3 | ⟨g,cur,e,hg,h4,h5,h6,h7,h8,h9,ab,af⟩
   ·exact absurd h3.2 hc
   ·cases hg;exact .inl (by simpa using ab)
theorem Zva (h:Za6 Γ w I F A hp) {I' : Nat→Prop} (hI:∀ b,I b→I' b) {id:Nat} (aa:Zq3 Γ w hp I' [id]) {xs:List D} (he:J2 (lkp hp id)=some xs) :
  ∃ ad n c sz,Γ id=some (.row ad n c sz)∧n=xs.length∧n≤c∧((n=0∧c=0)∨∃ g,ad=some ⟨g,0,none⟩∧I' g∧0<sz∧JY w I' g sz xs 0):=by
 unfold J2 at he;split at he
 ·rename_i sz af ex fz hl;cases he;obtain⟨ad,n,c,h1,h2,h3⟩:=h id _ hl;refine⟨ad,n,c,sz,h1,h2,?_⟩;rcases h3 with h3 | ⟨g,cur,e,rfl,hc,hw,h4,h5,h6,h7,h8,hF,h9⟩
  ·exact⟨by omega,.inl h3⟩
  ·refine⟨h4,.inr ⟨g,rfl,aa id (by simp) _ g hl rfl (.inl (by rw[h1];simp[ZB,KG hc])),h7,?_⟩⟩;cases ex
   ·exact h9.mono' (Zbf hI) rfl
   ·exact h9.mono' ⟨fun b hb=>hI b hb.1,fun _ _=>rfl⟩ rfl
 ·rename_i sz ns af lk hl;cases he;obtain⟨ad,n,c,h1,hd,_⟩:=h id _ hl;have ag:=hd;obtain⟨h2,h3⟩:=hd;refine⟨ad,n,c,sz,h1,h2,?_⟩;rcases h3 with h3 | ⟨g,cur,e,rfl,hc,hw,h4,h5,h6,ab,h8,ai,aj,ah,ak⟩
  ·exact⟨by omega,.inl h3⟩
  ·have ae:ZB (Γ id)=some g:=by rw[h1];simp[ZB,KG hc]
   exact⟨h4,.inr ⟨g,rfl,aa id (by simp) _ g hl rfl (.inl ae),ab,Zpu ag (fun b hb _=>hI b hb) fun p b hp hn=>aa id (by simp) _ b hl rfl (.inr (.inl ⟨g,p,ae,hp,hn⟩))⟩⟩
 ·cases he
theorem ZtI (h:Za6 Γ w I F A hp) {I' : Nat→Prop} (hI:∀ b,I b→I' b) {x:AV} {v:Value} (hx:Rep Γ w I x v) (aa:Zq3 Γ w hp I' (Zck x)) {d:D} (hd:Ziu hp x=some d):XE w I' d v:=by
 unfold Ziu at hd;split at hd
 ·cases hd;exact(QF.1 hx).mono (Zbf hI)
 ·cases hd;obtain⟨ad,rfl⟩:=hx;exact⟨ad,0,rfl,by simp,.inl rfl⟩
 ·rename_i id;obtain⟨xs,h1,hd⟩:=Za hd;cases hd;obtain⟨ad,n,c,sz,h2,h3,h4,h5⟩:=Zva h hI aa h1;obtain⟨aj,n',c',af,h6,rfl⟩:=hx;rw[h2] at h6;cases h6;refine⟨ad,c,by rw[h3],by omega,?_⟩;rcases h5 with h5 | ⟨g,rfl,h7,h8,h9⟩
  ·exact .inl (Ks (by omega))
  ·exact .inr ⟨g,0,sz,rfl,h7,h8,h9⟩
 ·rename_i id off n;obtain⟨xs,h1,hd⟩:=Za hd;cases hd;obtain⟨ad,m,c,sz,h2,h3,h4,h5⟩:=Zva h hI aa h1;obtain⟨a0,m',c',af,av,h6,h7,h8,rfl,h9,ab⟩:=hx;rw[h2] at h6;cases h6;have ae:n=((xs.drop off).take n).length:=by simp;omega
  refine⟨av,c-off,by rw[← ae],by omega,?_⟩;by_cases hn:n=0
  ·exact .inl (Ks (by omega))
  ·rcases h5 with h5 | ⟨g,rfl,ag,ah,ai⟩
   ·omega
   ·rcases ab with ab | ab
    ·subst ab;exact .inr ⟨g,off*sz,sz,by simp[UU],ag,ah,by simpa using Zkw ai off n⟩
    ·omega
 ·cases hd
theorem Zyu (h:Za6 Γ w I F A hp) {I' : Nat→Prop} (hI:∀ b,I b→I' b):∀ {xs:List AV} {vs:List Value} {ds:List D},Zu (Vj Γ w I) xs vs→Zq3 Γ w hp I' (xs.flatMap Zck)→QG (Ziu hp) xs=some ds→Zb0 D.one ds=true→Xy w I' ds vs
 | [],[],ds,_,_,hd,_=>by simp only[QG] at hd;cases hd;simp[Xy]
 | [],_ :: _,_,h,_,_,_=>h.elim
 | _ :: _,[],_,h,_,_,_=>h.elim
 | x :: xs,v :: vs,ds,hr,hl,hd,h1=>by
  simp only[QG] at hd;obtain⟨d,h2,hd⟩:=Za hd;obtain⟨ab,h3,hd⟩:=Za hd;cases hd;simp only[Zb0,Kf] at h1;refine⟨v,vs,rfl,h1.1,(XE.one h1.1).1 (ZtI h hI hr.1.rep2.rep (hl.sub fun id aa=>by simp only[KJ,Kg];exact .inl aa) h2),Zyu h hI hr.2 (hl.sub fun id aa=>by simp only[KJ,Kg];exact .inr aa) h3 h1.2⟩
theorem ZAD (h:Za6 Γ w I F A hp) {I' : Nat→Prop} (hI:∀ b,I b→I' b) {x:AV} {v:Value} (hx:Rep Γ w I x v) (aa:Zq3 Γ w hp I' (ZfB x)) {d:D} (hd:toD hp x=some d):XE w I' d v:=by
 unfold toD at hd;split at hd
 ·rename_i cs;obtain⟨ds,h1,hd⟩:=Za hd;split at hd
  ·rename_i h2;cases hd;obtain⟨vs,rfl,h3⟩:=hx;exact⟨vs,rfl,Zyu h hI h3 aa h1 h2⟩
  ·cases hd
 ·rename_i ab;refine ZtI h hI hx ?_ hd;cases x<;>first | exact aa | (exact absurd rfl (ab _))
def Zyv (x y:AV):List Nat:=match y with
 | .d _=>ZfB x
 | _=>[]
theorem ZB6 (h:Za6 Γ w I F A hp) {I' : Nat→Prop} (hI:∀ b,I b→I' b) {m:Bool} {x y:AV} {v:Value} (hx:Rep Γ w I x v) (ha:Zej hp m x=some y) (aa:Zq3 Γ w hp I' (Zyv x y)):Rep Γ w I' y v:=by
 have keep:Rep Γ w I' x v:=hx.mono (Q9.refl Γ) (Zbf hI);unfold Zej at ha;split at ha
 ·cases ha;exact keep
 ·cases ha;exact keep
 ·cases ha;exact keep
 ·cases ha;exact keep
 ·cases ha;exact keep
 ·rename_i id;cases m
  ·simp only[ZfL,asD] at ha;obtain⟨d,h1,ha⟩:=Za ha;cases ha;exact QF.2 (ZtI h hI hx aa h1)
  ·simp only[ZfL] at ha;cases ha;exact keep
 ·cases m
  ·simp only[Zha] at ha;cases ha;exact QF.2 (ZAD h hI hx aa rfl)
  ·simp only[Zha] at ha;cases ha;exact keep
 ·cases ha;exact keep
 ·obtain⟨d,h1,ha⟩:=Za ha;cases ha;exact QF.2 (ZAD h hI hx aa h1)
theorem Zmp (x y:AV) (xs ys:List AV):YY (x :: xs) (y :: ys)=Zyv x y++YY xs ys:=by
 cases y<;>simp[YY,Zyv]
theorem Zyw (h:Za6 Γ w I F A hp) {I' : Nat→Prop} (hI:∀ b,I b→I' b) (m:Nat→Bool):∀ {xs ys:List AV} {vs:List Value} (i:Nat),Zu (Rep Γ w I) xs vs→args hp m i xs=some ys→Zq3 Γ w hp I' (YY xs ys)→Zu (Rep Γ w I') ys vs
 | [],ys,[],i,_,ha,_=>by simp only[args] at ha;cases ha;exact trivial
 | [],_,_ :: _,_,h,_,_=>h.elim
 | _ :: _,_,[],_,h,_,_=>h.elim
 | x :: xs,ys,v :: vs,i,hr,ha,hl=>by
  simp only[args] at ha;obtain⟨y,h1,ha⟩:=Za ha;obtain⟨ab,h2,ha⟩:=Za ha;cases ha;rw[Zmp] at hl;exact⟨ZB6 h hI hr.1 h1 (hl.sub fun id aa=>by simp[aa]),Zyw h hI m (i+1) hr.2 h2 (hl.sub fun id aa=>by simp[aa])⟩
def ZgV (ids:List Nat) (Γ:Gh):Gh:=fun k=>match ids[k]? with
 | some id=>Γ id
 | none=>none
theorem WT {ids:List Nat} {k id:Nat} (h:ids[k]?=some id):ZgV ids Γ k=Γ id:=by simp[ZgV,h]
theorem ZgW {ids l:List Nat} (h:∀ id∈l,id∈ids):Zbu Γ (ZgV ids Γ) (WH ids) l:=by
 intro id aa r hr;rw[WT (ZjU (h id aa)).2];exact hr
theorem Zvb {S S' : Nat→Prop} {b sz:Nat} {ys:List D} (hf:Zb0 D.flat ys=true) {o:Nat} (h:JY w S b sz ys o):JY w S' b sz ys o:=by
 rw[Ya] at h ⊢;intro i x hx;obtain⟨vs,h1,h2,h3⟩:=h i x hx;refine⟨vs,h1,h2,?_⟩;have aa : x.flat=true:=by
  clear h h1 h2 h3
  induction ys generalizing i with
  | nil=>simp at hx
  | cons y ys ih=>
   simp only[Zb0,Kf] at hf;cases i with
   | zero=>simp at hx;subst hx;exact hf.1
   | succ i=>simp at hx;exact ih hf.2 i hx
 have one:∀ {y:D} {v:Value},y.plain=true→ZQ w S y [v]→ZQ w S' y [v]:=by
  intro y v hy hv;cases y<;>first | (simpa [ZQ] using hv) | (simp[D.plain] at hy)
 have all:∀ (ds:List D) (us:List Value),Zb0 D.plain ds=true→Xy w S ds us→Xy w S' ds us:=by
  intro ds
  induction ds with
  | nil=>intro us _ h;simpa [Xy] using h
  | cons d ds ih=>
   intro us hp h;simp only[Zb0,Kf] at hp;obtain⟨v,r,h1,h2,h3,h4⟩:=h;exact⟨v,r,h1,h2,one hp.1 h3,ih r hp.2 h4⟩
 have:=all x.cells vs aa h3.cells;exact Zer (Xu.1 this)
theorem Zfe.give {I' F' A' : Nat→Prop} {ad:Option Addr} {n c sz:Nat} {ys:List D} (h:Zfe w I F A ad n c sz ys true false) (hf:Zb0 D.flat ys=true)
  (hb:∀ b,ZB (some (.row ad n c sz))=some b→F b→F' b∧(I' b→I b)):Zfe w I' F' A' ad n c sz ys true false:=by
 obtain⟨h2,h3⟩:=h;refine⟨h2,?_⟩;rcases h3 with h3 | ⟨g,cur,e,rfl,hc,hw,h4,h5,h6,h7,h8,aa,h9⟩
 ·exact .inl h3
 ·obtain⟨ab,ae⟩:=hb g (by simp[ZB,KG hc]) aa;exact .inr ⟨g,cur,e,rfl,hc,hw,h4,h5,h6,h7,by simp at h8 ⊢;exact fun hi=>h8 (ae hi),ab,Zvb hf h9⟩
theorem WK.give {I' F' A' : Nat→Prop} {ns:Nat} {y:D} {v:Value} (h:WK w I F A ns y v) (hb:∀ b,YB v=some b→F b→F' b∧(I' b→I b)):WK w I' F' A' ns y v:=by
 cases y with
 | sl ys=>
  obtain⟨a,c,rfl,h2,h3⟩:=h;refine⟨a,c,rfl,h2.give h3 fun b aa=>hb b ?_,h3⟩;cases a with
  | none=>simp[ZB] at aa
  | some ad=>simpa [YB,ZB] using aa
 | int k n=>exact⟨h.1,by simpa [ZQ] using h.2⟩
 | bool k=>exact⟨h.1,by simpa [ZQ] using h.2⟩
 | str k=>exact⟨h.1,by simpa [ZQ] using h.2⟩
 | agg cs=>exact absurd h.1 (by simp[D.plain])
theorem Zdf.give {I' F' A' : Nat→Prop} {ad:Option Addr} {n c sz ns:Nat} {xs:List D} (h:Zdf w I F A ad n c sz ns xs)
  (aa:∀ b,ZB (some (.row ad n c sz))=some b→F b→F' b∧(I' b→I b)) (ah:∀ g p b,ZB (some (.row ad n c sz))=some g→p<xs.length*sz→YP w g p=some b→F b→F' b∧(I' b→I b)):Zdf w I' F' A' ad n c sz ns xs:=by
 obtain⟨h2,h3⟩:=h;refine⟨h2,?_⟩;rcases h3 with h3 | ⟨g,cur,e,rfl,hc,hw,h4,h5,h6,ab,h8,ai,aj,ae,ak⟩
 ·exact .inl h3
 ·have af:ZB (some (.row (some ⟨g,0,none⟩) n c sz))=some g:=by simp[ZB,KG hc]
  obtain⟨al,am⟩:=aa g af ai;refine .inr ⟨g,cur,e,rfl,hc,hw,h4,h5,h6,ab,fun hi=>h8 (am hi),al,?_,ae,ak⟩;intro i x hx;obtain⟨vs,v1,v2,v3⟩:=aj i x hx;refine⟨vs,v1,v2,Zu.of_get v3.length fun j y v hy hv=>?_⟩;obtain⟨v',ag,hn⟩:=v3.get j y hy;rw[hv] at ag;cases ag;refine hn.give fun b hb=>ah g (i*sz+j) b af ?_ (Zij (v2 j v hv) hb);have hi:i<xs.length:=(Kb.1 hx).1;have hj:j<sz:=by rw[← v1];exact(Kb.1 hv).1
  have:=KF sz (show i+1≤xs.length from hi);rw[KH] at this;omega
theorem Zvc {ids:List Nat} {id k:Nat} (hk:ids[k]?=some id) {o:Zm} (ho:Wa Γ w I F A id o) {I' F' A' : Nat→Prop} (hI:∀ b,I b→I' b) (hF:∀ b,Blk Γ w id o b→F' b) (hA:∀ b,I b→A b→A' b)
  (hn:∀ b,Blk Γ w id o b→I' b→I b):Wa (ZgV ids Γ) w I' F' A' k (J7 ids o):=by
 cases o with
 | deep sz ns xs lk=>
  obtain⟨ad,n,c,h1,h2,_⟩:=ho;exact⟨ad,n,c,by rw[WT hk,h1],h2.give (fun b hb _=>have:=Or.inl (h1 ▸ hb);⟨hF b this,hn b this⟩) (fun g p b hg hp hb _=>have:=Or.inr (Or.inl ⟨g,p,h1 ▸ hg,hp,hb⟩);⟨hF b this,hn b this⟩),trivial⟩
 | box cs=>
  obtain⟨b,cur,e,h1,h2,h3,h4,h5,ae⟩:=ho;have hb:Blk Γ w id (.box cs) b:=.inl (by rw[h1];rfl);refine⟨b,cur,e,by rw[WT hk,h1],h2,fun hi=>h3 (hn b hb hi),hF b hb,?_,((ae.mono fun x te l u v g hc hv hg=>have hB:=Or.inr (Or.inr (ZxW h1 h2 hc hv hg));⟨rfl,hn g hB,fun _=>hF g hB⟩).map (JC _)).map (ZcR _)⟩;have h6:Zu (XO Γ w I) (cs.map (ZV ((ZbH (.box cs)).filter fun i=>!ids.contains i))) cur.toList:=h5.map_left fun _ _ h=>Zk8 h;refine ZeS (ZgW fun ab aa=>?_) (Zbf hI) h6;obtain⟨y,hy,aa⟩:=Ky.1 aa;obtain⟨x,hx,rfl⟩:=Ld.1 hy;obtain⟨h7,h8⟩:=ZfE _ x ab aa;have h9:ab∈ZbH (.box cs):=Ky.2 ⟨x,hx,h7⟩
  simp only[List.mem_filter,K4,KU,K6,not_and,Decidable.not_not] at h8;exact h8 h9
 | row sz xs ex fz=>
  obtain⟨ad,n,c,h1,h2,h3⟩:=ho;refine⟨ad,n,c,by rw[WT hk,h1],h2,?_⟩;rcases h3 with h3 | ⟨g,cur,e,rfl,hc,hw,h4,h5,h6,h7,h8,af,h9⟩
  ·exact .inl h3
  ·have hb:Blk Γ w id (.row sz xs ex fz) g:=.inl (by rw[h1];simp[ZB,KG hc]);refine .inr ⟨g,cur,e,rfl,hc,hw,h4,h5,h6,h7,?_,hF g hb,?_⟩
   ·cases fz
    ·simp at h8 ⊢;exact fun hi=>h8 (hn g hb hi)
    ·simp at h8 ⊢;exact hI g h8
   ·cases ex
    ·exact h9.mono' (Zbf hI) rfl
    ·simp only[Km] at h9 ⊢;exact h9.mono' ⟨fun b hb=>⟨hI b hb.1,hA b hb.1 hb.2⟩,fun _ _=>rfl⟩ rfl
end
end Go.Abs
