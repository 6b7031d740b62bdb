/- Own text. -/
import Derived.Test.YtcefneehgbiebaaGreatDoorAbsCall2
set_option linter.unusedVariables false
set_option linter.unusedSimpArgs false
namespace Go.Abs
open Go
theorem Zgp : ∀ (l:Hp) (hp:Hp) (id:Nat) (o:Zl),lkp (Zh hp l) id=some o→(id,o)∈l∨((∀ o',(id,o')∉l)∧lkp hp id=some o)
 | [],hp,id,o,h=>.inr ⟨by simp,h⟩
 | (k,x) :: r,hp,id,o,h=>by
  rcases Zgp r (ins hp k x) id o h with h1 | ⟨h1,h2⟩
  ·exact .inl (Kz _ h1)
  ·rw[Qh] at h2;split at h2
   ·rename_i hk;subst hk;cases h2;exact .inl (KX ..)
   ·rename_i hk;refine .inr ⟨fun o' hm=>?_,h2⟩;rcases Kf.1 hm with hm | hm
    ·cases hm;exact hk rfl
    ·exact h1 o' hm
theorem Ze3 (g:Nat→Nat):∀ (ids:List Nat) (out:List Zl) (id:Nat) (o:Zl),(id,o)∈Zcy g ids out→∃ (k:Nat) (o0:Zl),ids[k]?=some id∧out[k]?=some o0∧o=Zmi g o0
 | [],out,id,o,h=>by simp[Zcy] at h
 | i :: ids,[],id,o,h=>by simp[Zcy] at h
 | i :: ids,o1 :: out,id,o,h=>by
  simp only[Zcy] at h;rcases Kf.1 h with h | h
  ·cases h;exact⟨0,o1,by simp,by simp,rfl⟩
  ·obtain⟨k,o0,h1,h2,h3⟩:=Ze3 g ids out id o h;exact⟨k+1,o0,by simpa using h1,by simpa using h2,h3⟩
theorem ZnB (g:Nat→Nat):∀ (ids:List Nat) (out:List Zl) (id:Nat),ids.length≤out.length→id∈ids→∃ o,(id,o)∈Zcy g ids out
 | [],out,id,_,h=>by simp at h
 | i :: ids,[],id,hl,h=>by simp at hl
 | i :: ids,o1 :: out,id,hl,h=>by
  simp only[Zcy];rcases Kf.1 h with h | h
  ·subst h;exact⟨_,KX ..⟩
  ·obtain⟨o,ho⟩:=ZnB g ids out id (by simpa using hl) h;exact⟨o,Kz _ ho⟩
theorem ZnC (g:Nat→Nat):∀ (out:List Zl) (k id:Nat) (o:Zl),(id,o)∈Zcz g k out→∃ (j:Nat) (o0:Zl),out[j]?=some o0∧id=k+j∧o=Zmi g o0
 | [],k,id,o,h=>by simp[Zcz] at h
 | o1 :: out,k,id,o,h=>by
  simp only[Zcz] at h;rcases Kf.1 h with h | h
  ·cases h;exact⟨0,o1,by simp,rfl,rfl⟩
  ·obtain⟨j,o0,h1,h2,h3⟩:=ZnC g out (k+1) id o h;exact⟨j+1,o0,by simpa using h1,by omega,h3⟩
theorem ZnD (g:Nat→Nat):∀ (out:List Zl) (k j:Nat),j<out.length→∃ o,(k+j,o)∈Zcz g k out
 | [],k,j,h=>by simp at h
 | o1 :: out,k,0,h=>⟨_,by simp only[Zcz];exact KX ..⟩
 | o1 :: out,k,j+1,h=>by
  obtain⟨o,ho⟩:=ZnD g out (k+1) j (by simpa using h);refine⟨o,?_⟩;simp only[Zcz];have:k+(j+1)=k+1+j:=by omega
  rw[this];exact Kz _ ho
theorem ZAK (x:AV):Zee (fun k=>k) x=x:=by cases x<;>rfl
theorem Znm (x:AV):Zef (fun k=>k) x=x:=by
 cases x<;>first | rfl | (simp only[Zef];congr 1;rw[KO (g:=id) (fun a _=>ZAK a),Lq])
theorem Zt8 (xs:List AV):xs.map (Zef fun k=>k)=xs:=by
 rw[KO (g:=id) (fun a _=>Znm a),Lq]
theorem ren_id (x:AV):ren (fun k=>k) x=x:=by
 cases x with
 | tup vs=>simp only[ren];congr 1;rw[KO (g:=id) (fun a _=>Znm a),Lq]
 | d x=>rfl
 | nil=>rfl
 | nilp=>rfl
 | nili=>rfl
 | ptr a b=>rfl
 | prow a b c d=>rfl
 | pim c=>rfl
 | own a=>rfl
 | ownv a b c=>rfl
 | sub a b=>rfl
 | bnil a b=>rfl
 | bbuf a b=>rfl
 | agg cs=>exact Znm (.agg cs)
 | clo f cs=>exact Znm (.clo f cs)
 | junk=>rfl
theorem Zax (x:AV):Qa [] x=x:=by cases x<;>simp[Qa]
theorem Zeh (x:AV):ZT [] x=x:=by
 cases x<;>first | (simp only[ZT];congr 1;rw[KO (g:=id) (fun a _=>Zax a),Lq]) | simp[ZT,Qa]
theorem Zzi (x:AV):kill [] x=x:=by
 cases x with
 | tup vs=>simp only[kill];congr 1;rw[KO (g:=id) (fun a _=>Zeh a),Lq]
 | d x=>rfl
 | nil=>rfl
 | nilp=>rfl
 | nili=>rfl
 | ptr a b=>exact Zax (.ptr a b)
 | prow a b c d=>exact Zax (.prow a b c d)
 | pim c=>rfl
 | own a=>exact Zax (.own a)
 | ownv a b c=>exact Zax (.ownv a b c)
 | sub a b=>exact Zax (.sub a b)
 | bnil a b=>exact Zax (.bnil a b)
 | bbuf a b=>rfl
 | agg cs=>exact Zeh (.agg cs)
 | clo f cs=>exact Zeh (.clo f cs)
 | junk=>rfl
theorem ZxZ (o:Zl):XV [] o=o:=by
 cases o with
 | box cs=>simp only[XV];congr 1;rw[KO (g:=id) (fun a _=>Zeh a),Lq]
 | row s x e f=>rfl
 | deep s n x l=>cases l<;>simp[XV,Zgl]
theorem QQ (gone:List Nat) (sl:Sl) (t:Nat):gs (Xa gone sl) t=kill gone (gs sl t):=by
 unfold Xa;split
 ·rw[Zzi]
 ·simp only[gs,ZcL];cases lkp sl t<;>rfl
theorem Vv (gone:List Nat) (hp:Hp) (id:Nat):lkp (Y4 gone hp) id=(lkp hp id).map (XV gone):=by
 unfold Y4;split
 ·cases h:lkp hp id with
  | none=>rfl
  | some o=>simp[ZxZ]
 ·exact ZcL _ _ _
section
variable {P:Program} {nt:Nat} {U:Nat→Prop} {F A I:Nat→Prop} {Γ:Gh} {sl:Sl} {hp:Hp} {a:Act} {w:World}
theorem Zit {I2:Nat→Prop} {x:AV} {v:Value} (hc:Zcx x=true) (h:Y9 Γ w I x v):Y9 Γ w I2 x v:=by
 cases x with
 | d x=>exact⟨h.1,ZoE hc h.2⟩
 | pim cs=>cases hc
 | agg cs=>exact h
 | tup cs=>exact h
 | clo f cs=>exact h
 | _=>exact h
theorem Zdg {I2:Nat→Prop}:∀ {xs:List AV} {vs:List Value},xs.all Zcx=true→Zt (Y9 Γ w I) xs vs→Zt (Y9 Γ w I2) xs vs
 | [],[],_,_=>trivial
 | [],_ :: _,_,h=>h.elim
 | _ :: _,[],_,h=>h.elim
 | x :: xs,v :: vs,hc,h=>by
  simp only[Lm,Ke] at hc;exact⟨Zit hc.1 h.1,Zdg hc.2 h.2⟩
theorem ZnE {I2:Nat→Prop} {x:AV} {v:Value} (hc:ZdH x=true) (h:JI Γ w I x v):JI Γ w I2 x v:=by
 by_cases hs:x.small=true
 ·rw[(W0 hs v).2.1] at h ⊢;refine Zit ?_ h;cases x<;>first | exact hc | cases hs
 ·cases x with
  | agg cs=>obtain⟨us,h1,h2⟩:=h;exact⟨us,h1,Zdg hc h2⟩
  | clo f cs=>obtain⟨us,h1,h2⟩:=h;exact⟨us,h1,Zdg hc h2⟩
  | tup cs=>exact h.elim
  | d x=>exact Zop.2 (Zr2 hc (Zop.1 h))
  | _=>exact absurd rfl hs
theorem ZvN {I2:Nat→Prop} {x:AV} {v:Value} (hc:ZdH x=true) (h:XJ Γ w I x v):XJ Γ w I2 x v:=by
 by_cases hs:x.small=true
 ·rw[(W0 hs v).2.2] at h ⊢;refine Zit ?_ h;cases x<;>first | exact hc | cases hs
 ·cases x with
  | agg cs=>exact h.elim
  | clo f cs=>obtain⟨us,h1,h2⟩:=h;exact⟨us,h1,Zdg hc h2⟩
  | tup cs=>exact h.elim
  | d x=>exact⟨h.1,ZoE hc h.2⟩
  | _=>exact absurd rfl hs
theorem ZlG {I2:Nat→Prop}:∀ {xs:List AV} {vs:List Value},xs.all ZdH=true→Zt (XJ Γ w I) xs vs→Zt (XJ Γ w I2) xs vs
 | [],[],_,_=>trivial
 | [],_ :: _,_,h=>h.elim
 | _ :: _,[],_,h=>h.elim
 | x :: xs,v :: vs,hc,h=>by
  simp only[Lm,Ke] at hc;exact⟨ZvN hc.1 h.1,ZlG hc.2 h.2⟩
theorem ZlH {I2:Nat→Prop}:∀ {xs:List AV} {vs:List Value},xs.all ZdH=true→Zt (JI Γ w I) xs vs→Zt (JI Γ w I2) xs vs
 | [],[],_,_=>trivial
 | [],_ :: _,_,h=>h.elim
 | _ :: _,[],_,h=>h.elim
 | x :: xs,v :: vs,hc,h=>by
  simp only[Lm,Ke] at hc;exact⟨ZnE hc.1 h.1,ZlH hc.2 h.2⟩
theorem Zx0 {I2:Nat→Prop} {x:AV} {v:Value} (hc:ZrP x=true) (h:Rep Γ w I x v):Rep Γ w I2 x v:=by
 by_cases ht:∃ vs,x=.tup vs
 ·obtain⟨vs,rfl⟩:=ht;obtain⟨us,h1,h2⟩:=h;exact⟨us,h1,ZlH hc h2⟩
 ·have e:∀ I,Rep Γ w I x v=JI Γ w I x v:=fun I=>by cases x<;>first | rfl | exact absurd ⟨_,rfl⟩ ht
  rw[e] at h ⊢;refine ZnE ?_ h;cases x<;>first | exact hc | exact absurd ⟨_,rfl⟩ ht
theorem Sim.blk_F (h:Sim nt F A I Γ U sl hp a w) {id:Nat} {o:Zl} (hl:lkp hp id=some o) {b:Nat} (hb:Blk Γ w id o b):F b:=Zif (h.objs id o hl) hb
def Zx1 (Γ:Gh) (w:World) (hp:Hp) (ids:List Nat) (n:Nat) (b:Nat):Prop:=n≤b∨∃ id∈ids,∃ o,lkp hp id=some o∧Blk Γ w id o b
def calA (Γ:Gh) (w:World) (hp:Hp) (ids:List Nat) (n:Nat) (I A:Nat→Prop) (b:Nat):Prop:=Zx1 Γ w hp ids n b∨(I b∧A b)
def Zei (Γ Γ' : Gh) (ids:List Nat) (base:Nat):Gh:=fun id=>if id∈ids then Γ' (Wr ids id) else if base≤id∧id<base+64 then Γ' (ids.length+(id-base)) else Γ id
theorem Zx2 (h:Sim nt F A I Γ U sl hp a w) {base:Nat} (hb:Xk U base) {ids ae:List Nat} (bz:ids.Nodup) (ap:∀ id∈ids,∃ o,lkp hp id=some o) (a7:¬ae.any ids.contains=true)
  {r:AV} {out:List Zl} {I' : Nat→Prop} {Γ' : Gh} {v:Value} {w' : World}
  (aa:ZxY (Zx1 Γ w hp ids w.heap.size) (calA Γ w hp ids w.heap.size I A) (ZgO Γ w hp I ae) (Zgn ids Γ) w out r I' Γ' v w')
  {ce:Zd} (a4:JE hp base ids ae r out=some ce) (bv:QT base (base+64) ce.eff.adds=true) {dst:Option Nat} (hd:Q7 nt dst=true) :
  UD nt F A I Γ w (JJ U base) (ce.on dst sl hp).1 (ce.on dst sl hp).2 (a.put dst v) w':=by
 unfold JE at a4;split at a4
 ·cases a4
 rename_i a8;have a8:ids.length≤out.length:=by omega
 split at a4
 ·cases a4
 rename_i au;cases a4;generalize av:(ZrP r&&out.all ZiA)=cl at *;dsimp only at bv;have a9:∀ id∈ids,¬(base≤id∧id<base+64):=fun id an hh=>by
  obtain⟨o,ho⟩:=ap id an;exact hb id hh.1 hh.2 (h.id_in ho)
 have bm:(out.drop ids.length).length≤64:=by
  rcases KT 64 (out.drop ids.length).length with b0 | bm
  ·obtain⟨o,ho⟩:=ZnD (WF ids base) (out.drop ids.length) base 64 b0;have:=(W3 bv _ _ ho).2;omega
  ·exact bm
 have b1 : out.length≤ids.length+64:=by simp at bm;omega
 have ax:∀ b,Zx1 Γ w hp ids w.heap.size b→F b:=by
  rintro b (hb | ⟨id,an,o,ho,ah⟩)
  ·exact h.fresh b hb
  ·exact h.blk_F ho ah
 have b2:∀ b,calA Γ w hp ids w.heap.size I A b→A b:=by
  rintro b (hb | hb)
  ·exact h.own b (ax b hb)
  ·exact hb.2
 have ba:∀ b,ZgO Γ w hp I ae b→¬I b→¬Zx1 Γ w hp ids w.heap.size b:=by
  rintro b ay ai (hb | ⟨id,an,o,ho,ah⟩)
  ·rcases ay with ay | ⟨aw,am,o',a0,bg,a1⟩
   ·exact ai ay
   ·have:=h.blk_lt a0 a1;omega
  ·rcases ay with ay | ⟨aw,am,o',a0,bg,a1⟩
   ·exact ai ay
   ·have:=h.inj id aw o _ b ho a0 ah a1;subst this;exact a7 (LX.2 ⟨id,am,by simpa using an⟩)
 let I2:Nat→Prop:=fun b=>I' b∧(cl=true→ZgO Γ w hp I ae b→I b)
 let Γ2:Gh:=Zei Γ Γ' ids base
 have bn:∀ b,I b→I2 b:=fun b hb=>⟨aa.keeps.sub b (.inl hb),fun _ _=>hb⟩
 have ag:ZP I I2 w w':=⟨bn,fun b hb=>aa.keeps.blk b (.inl hb)⟩
 have b3:∀ b,I' b→calA Γ w hp ids w.heap.size I A b→I2 b∧A b:=by
  intro b h1 h2;refine⟨⟨h1,fun _ ay=>?_⟩,b2 b h2⟩;rcases h2 with h2 | h2
  ·exact Classical.byContradiction fun ai=>ba b ay ai h2
  ·exact h2.1
 have af:∀ k,k<out.length→Γ2 (WF ids base k)=Γ' k:=by
  intro k bh;by_cases hk:k<ids.length
  ·have hg:ids[k]?=some ids[k]:=Kq hk;have hb:WF ids base k=ids[k]:=by simp[WF,hg,ZiB]
   show Zei Γ Γ' ids base _=_;rw[hb];simp only[Zei];rw[Ki (List.getElem_mem hk),Zhp bz hg]
  ·have hg:ids[k]?=none:=KR (by omega);have hb:WF ids base k=base+(k-ids.length):=by simp[WF,hg,ZiB]
   show Zei Γ Γ' ids base _=_;rw[hb];simp only[Zei];rw[Kd (fun hm=>a9 _ hm (by omega)),Ki (by omega)];congr 1
   omega
 have bb:∀ l,ZaZ Γ' Γ2 (WF ids base) l:=fun l id _ r hr=>by
  rw[af id ?_]
  ·exact hr
  ·rcases KT id out.length with h1 | h1
   ·exact h1
   ·rw[aa.names id h1] at hr;cases hr
 have aq:∀ id b,Γ id=some (.box b)→Γ2 id=some (.box b):=by
  intro id b hg;show Zei Γ Γ' ids base id=_;simp only[Zei];split
  ·rename_i hm;refine aa.boxes _ b ?_;rw[WC (Zjd hm).2];exact hg
  ·split
   ·rename_i a5;rw[h.names id (hb id a5.1 a5.2)] at hg;cases hg
   ·exact hg
 have ar:∀ id,id∉(ids.filter fun i=>Y1 (lkp hp i))→∀ r,Γ id=some r→Γ2 id=some r:=by
  intro id bw r hr;by_cases hm:id∈ids
  ·obtain⟨o,ho⟩:=ap id hm;cases o with
   | box cs=>
    obtain⟨b,cur,e,h1,_⟩:=h.objs id _ ho;rw[h1] at hr;cases hr;exact aq id _ h1
   | row sz xs ex fz=>exact absurd (by simp[hm,ho,Y1]) bw
   | deep sz ns xs lk=>exact absurd (by simp[hm,ho,Y1]) bw
  ·show Zei Γ Γ' ids base id=_;simp only[Zei];rw[Kd hm];split
   ·rename_i a5;rw[h.names id (hb id a5.1 a5.2)] at hr;cases hr
   ·exact hr
 have ao:∀ id o,id∉ids→lkp hp id=some o→Γ2 id=Γ id:=by
  intro id o hm hl;show Zei Γ Γ' ids base id=_;simp only[Zei];rw[Kd hm,Kd (fun hh=>hb id hh.1 hh.2 (h.id_in hl))]
 have bp:∀ (k:Nat) (o:Zl),out[k]?=some o→VY Γ2 w' I2 F A (WF ids base k) (Zmi (WF ids base) o):=by
  intro k o ho;have bh:k<out.length:=(Kb.1 ho).1;have h1:=aa.objs k o (by rw[Y7];simpa using ho);cases o with
  | deep sz ns xs lk=>
   obtain⟨ad,n,c,h2,h3,_⟩:=h1;exact⟨ad,n,c,by rw[af k bh];exact h2,h3.give (fun b _ hb=>⟨ax b hb,fun hi=>hi.1⟩) (fun g p b _ _ _ hb=>⟨ax b hb,fun hi=>hi.1⟩),trivial⟩
  | box cs=>
   obtain⟨b,cur,e,h2,h3,h4,h5,h6,bq⟩:=h1;refine⟨b,cur,e,by rw[af k bh];exact h2,h3,fun hi=>h4 hi.1,ax b h5,?_,(bq.mono fun x te l u v g hc hv hg=>⟨rfl,fun hi=>hi.1,fun hF=>ax g hF⟩).map (Zci _)⟩;have h7:Zt (XJ Γ' w' I2) cs cur.toList:=by
    cases hq:cl with
    | false=>exact h6.mono fun _ _ h=>h.mono (Q4.refl _) ⟨fun b hb=>⟨hb,fun ak=>by rw[hq] at ak;cases ak⟩,fun _ _=>rfl⟩
    | true=>
     rw[hq] at av;simp only[Ke] at av;exact ZlG (KP.1 av.2 _ (Kc ho)) h6
   exact Zeg (bb _) (ZP.refl I2 w') h7
  | row sz xs ex fz=>
   obtain⟨ad,n,c,h2,h3,h4⟩:=h1;refine⟨ad,n,c,by rw[af k bh];exact h2,h3,?_⟩;rcases h4 with h4 | ⟨g,cur,e,rfl,hc,hw,h5,h6,h7,h8,h9,a6,a2⟩
   ·exact .inl h4
   ·have bc:cl=true→ex=true∧fz=false:=by
     intro hq;rw[hq] at av;simp only[Ke] at av;have:=KP.1 av.2 _ (Kc ho);simpa [ZiA] using this
    refine .inr ⟨g,cur,e,rfl,hc,hw,h5,h6,h7,h8,?_,ax g a6,?_⟩
    ·cases fz
     ·simp at h9 ⊢;exact fun hi=>h9 hi.1
     ·simp at h9 ⊢;exact⟨h9,fun hq=>by have:=(bc hq).2;cases this⟩
    ·cases ex
     ·have:cl=false:=by cases hq:cl with
       | false=>rfl
       | true=>have:=(bc hq).1;cases this
      exact a2.mono' ⟨fun b hb=>⟨hb,fun ak=>by rw[this] at ak;cases ak⟩,fun _ _=>rfl⟩ rfl
     ·simp only[Km] at a2 ⊢;exact a2.mono' ⟨fun b hb=>b3 b hb.1 hb.2,fun _ _=>rfl⟩ rfl
 have br:∀ id o,lkp (Zh (Zh (Qm (Qc (if cl then [] else ae) (Y4 (ids.filter fun i=>Y1 (lkp hp i)) hp)) []) (Zcy (WF ids base) ids out)) (Zcz (WF ids base) base (out.drop ids.length))) id=some o →
   (∃ (k:Nat) (o0:Zl),out[k]?=some o0∧id=WF ids base k∧o=Zmi (WF ids base) o0) ∨
   (id∉ids∧∃ o0,lkp hp id=some o0∧o=(if (if cl then [] else ae).contains id then VD (XV (ids.filter fun i=>Y1 (lkp hp i)) o0) else XV (ids.filter fun i=>Y1 (lkp hp i)) o0)):=by
  intro id o hl;rcases ZaH _ _ _ _ hl with hm | hm
  ·obtain⟨j,o0,h1,h2,h3⟩:=ZnC _ _ _ _ _ hm;rw[Lf] at h1;refine .inl ⟨ids.length+j,o0,h1,?_,h3⟩;have hg:ids[ids.length+j]?=none:=KR (by omega);simp only[WF,hg,ZiB];omega
  ·rcases Zgp _ _ _ _ hm with hm | ⟨b4,hm⟩
   ·obtain⟨k,o0,h1,h2,h3⟩:=Ze3 _ _ _ _ _ hm;exact .inl ⟨k,o0,h2,by simp[WF,h1,ZiB],h3⟩
   ·simp only[Qm] at hm;rw[Z8,Vv] at hm;have ai:id∉ids:=fun hi=>by obtain⟨o',bs⟩:=ZnB (WF ids base) ids out id a8 hi;exact b4 o' bs
    cases aj:lkp hp id with
    | none=>rw[aj] at hm;cases hm
    | some o0=>
     rw[aj] at hm;simp only[KJ,Option.some.injEq] at hm;exact .inr ⟨ai,o0,rfl,hm.symm⟩
 have ab:∀ id o b,id∉ids→lkp hp id=some o→Blk Γ w id o b→¬Zx1 Γ w hp ids w.heap.size b:=by
  rintro id o b ai hl ah (a5 | ⟨aw,am,o',bs,a1⟩)
  ·have:=h.blk_lt hl ah;omega
  ·have:=h.inj id aw o o' b hl bs ah a1;exact ai (this ▸ am)
 refine⟨I2,Γ2,aq,ag,?_,?_,?_⟩
 ·intro b hb;rcases aa.sub b hb.1 with h1 | h1
  ·exact h.frozeL_F h1
  ·exact .inr (ax b h1)
 ·exact⟨aa.fr.os,aa.fr.tape,aa.fr.output,aa.fr.size,fun k hk b5=>aa.fr.block k hk fun hc=>b5 (ax k hc)⟩
 ·refine { nt:=by rw[ZuZ];exact h.nt,dfr:=by rw[ZoB];exact h.dfr,slots:=?_,objs:=?_,inj:=?_,bound:=fun b hb=>aa.bound b hb.1,fresh:=fun b hb=>h.fresh b (by have:=aa.fr.size;omega),own:=h.own,names:=?_,glob:=h.glob.mono ag }
  ·intro t;show Rep Γ2 w' I2 (gs (Zp (Xa (ids.filter fun i=>Y1 (lkp hp i)) sl) dst (ren (WF ids base) r)) t) _;rw[Qw,ZxF h.nt hd];split
   ·have h1:Rep Γ' w' I2 r v:=by
     cases hq:cl with
     | false=>exact aa.res.mono (Q4.refl _) ⟨fun b hb=>⟨hb,fun ak=>by rw[hq] at ak;cases ak⟩,fun _ _=>rfl⟩
     | true=>
      rw[hq] at av;simp only[Ke] at av;exact Zx0 av.1 aa.res
    exact Znl (bb _) (ZP.refl I2 w') h1
   ·rw[QQ];have h1:=Zt3 (bad:=ids.filter fun i=>Y1 (lkp hp i)) (h.slots t);have h2:=Znl (g:=fun k=>k) (fun id an r hr=>ar id (Zku _ _ id an).2 r hr) ag h1
    rwa [ren_id] at h2
  ·intro id o hl;rcases br id o hl with ⟨k,o0,h1,rfl,rfl⟩ | ⟨ai,o0,aj,rfl⟩
   ·exact bp k o0 h1
   ·have al:∀ b,Blk Γ w id o0 b→w'.heap[b]?=w.heap[b]?:=fun b hb=>aa.fr.block b (h.blk_lt aj hb) (ab id o0 b ai aj hb);have bd:(if cl=true then [] else ae).contains id=true→cl=false∧id∈ae:=by
     intro hq;cases bt:cl<;>rw[bt] at hq<;>simp at hq
     exact⟨rfl,hq⟩
    have be:∀ b,Blk Γ w id o0 b→((if cl=true then [] else ae).contains id=false∨o0.soft=false)→I2 b→I b:=by
     intro b ah az hi;rcases aa.sub b hi.1 with h1 | h1
     ·rcases h1 with h1 | ⟨aw,am,o',a0,bg,a1⟩
      ·exact h1
      ·have he:=h.inj id aw _ _ b aj a0 ah a1;subst he;rw[aj] at a0;cases a0;cases hq:cl with
       | true=>exact hi.2 hq (.inr ⟨id,am,_,aj,bg,ah⟩)
       | false=>
        rcases az with az | az
        ·rw[hq] at az;simp at az;exact absurd am az
        ·rw[bg] at az;cases az
     ·exact absurd h1 (ab id o0 b ai aj ah)
    have ho:=h.objs id o0 aj;have hG:=ao id o0 ai aj;cases o0 with
    | deep sz ns xs lk=>
     cases hq:(if cl=true then [] else ae).contains id with
     | true=>
      obtain⟨bt,bu⟩:=bd hq;exfalso
      rw[bt] at au;simp only[Bool.not_false,Bool.true_and,LH] at au;have:ae.any (fun i=>Zby (lkp hp i))=true:=LX.2 ⟨id,bu,by rw[aj];rfl⟩;rw[this] at au;cases au
     | false=>
      simp only[Ka,Ko];obtain⟨ad,n,c,h2,h3,h4⟩:=ho;refine⟨ad,n,c,by rw[hG,h2],h3.mono ag (fun b hb=>have:=Or.inl (h2 ▸ hb);⟨al b this,be b this (.inl hq)⟩) (fun g p b hg hp hb=>have:=Or.inr (Or.inl ⟨g,p,h2 ▸ hg,hp,hb⟩);⟨al b this,be b this (.inl hq)⟩),?_⟩;cases lk with
      | none=>exact trivial
      | some q=>
       simp only[Zgl];split
       ·exact trivial
       ·rename_i b6;obtain⟨nm,i,j⟩:=q;obtain⟨g',a',n',c',b7,h5,h6,h7,h8,h9⟩:=h4;refine⟨g',a',n',c',b7,h5,ar nm (by simpa using b6) _ h6,h7,h8,?_⟩;subst h5;have b8:Zy (Γ id)=some g':=by
         rw[h2];rcases h3.2 with a6 | ⟨_,_,_,_,a6,_⟩
         ·have:=h3.1;omega
         ·simp[Zy,KC a6]
        rw[World.cell?_of_block (w:=w) (a:=⟨g',i*sz+j,none⟩) (al g' (.inl b8))];exact h9
    | box cs=>
     have hz:(if (if cl=true then [] else ae).contains id=true then VD (XV (ids.filter fun i=>Y1 (lkp hp i)) (.box cs)) else XV (ids.filter fun i=>Y1 (lkp hp i)) (.box cs))=.box (cs.map (ZT (ids.filter fun i=>Y1 (lkp hp i)))):=by
      cases (if cl=true then [] else ae).contains id<;>rfl
     rw[hz];obtain⟨b,cur,e,h2,h3,h4,h5,h6,bq⟩:=ho;have ah:Blk Γ w id (.box cs) b:=.inl (by rw[h2];rfl);refine⟨b,cur,e,by rw[hG,h2],by rw[al b ah,h3],fun hi=>h4 (be b ah (.inr rfl) hi),h5,?_,(bq.mono fun x te l u v g hc hv hg=>have hB:=Or.inr (Or.inr (ZwJ h2 h3 hc hv hg));⟨al g hB,be g hB (.inr rfl),fun h=>h⟩).map (Jb _)⟩;have h7:=h6.map_left (S:=XJ Γ w I) (f:=ZT (ids.filter fun i=>Y1 (lkp hp i))) fun _ _ h=>Zks h;have h8:=Zeg (g:=fun k=>k) (Γ':=Γ2) (fun aw an r hr=>ar aw (by
      obtain⟨y,hy,an⟩:=Kv.1 an;obtain⟨x,hx,rfl⟩:=K5.1 hy;exact(Ze2 _ x aw an).2) r hr) ag h7
     rwa [Zt8] at h8
    | row sz xs ex fz=>
     obtain⟨ad,n,c,h2,h3,h4⟩:=ho;have hz:∃ bf,(if (if cl=true then [] else ae).contains id=true then VD (XV (ids.filter fun i=>Y1 (lkp hp i)) (.row sz xs ex fz)) else XV (ids.filter fun i=>Y1 (lkp hp i)) (.row sz xs ex fz))=.row sz xs ex bf ∧
       (bf=false→fz=false∧(if cl=true then [] else ae).contains id=false)∧(bf=true→fz=true∨(fz=false∧cl=false∧id∈ae)):=by
      cases hq:(if cl=true then [] else ae).contains id with
      | true=>
       refine⟨true,rfl,(fun h=>by cases h),fun _=>?_⟩;cases fz
       ·exact .inr ⟨rfl,bd hq⟩
       ·exact .inl rfl
      | false=>exact⟨fz,rfl,fun hf=>⟨hf,rfl⟩,fun hf=>.inl hf⟩
     obtain⟨bf,hz,b9,b'⟩:=hz;rw[hz];refine⟨ad,n,c,by rw[hG,h2],h3,?_⟩;rcases h4 with h4 | ⟨g,cur,e,rfl,hc,hw,h5,h6,h7,h8,h9,a6,a2⟩
     ·exact .inl h4
     ·have ah:Blk Γ w id (.row sz xs ex fz) g:=.inl (by rw[h2];simp[Zy,KC hc]);refine .inr ⟨g,cur,e,rfl,hc,by rw[al g ah,hw],h5,h6,h7,h8,?_,a6,?_⟩
      ·cases bf with
       | false=>
        obtain⟨hf,hq⟩:=b9 rfl;rw[hf] at h9;simp at h9 ⊢;exact fun hi=>h9 (be g ah (.inl hq) hi)
       | true=>
        simp;rcases b' rfl with hf | ⟨hf,hq,bu⟩
        ·rw[hf] at h9;simp at h9;exact bn g h9
        ·subst hf;exact⟨aa.keeps.sub g (.inr ⟨id,bu,_,aj,rfl,ah⟩),fun bx=>by rw[hq] at bx;cases bx⟩
      ·cases ex
       ·exact a2.mono' ag (al g ah)
       ·simp only[Km] at a2 ⊢;exact a2.mono' ⟨fun b hb=>⟨bn b hb.1,hb.2⟩,fun b hb=>ag.blk b hb.1⟩ (al g ah)
  ·have bk:∀ (k:Nat) (o0:Zl) (b:Nat),out[k]?=some o0→Blk Γ2 w' (WF ids base k) (Zmi (WF ids base) o0) b→Blk Γ' w' k o0 b:=by
    intro k o0 b h1 hb;have e:=af k (Kb.1 h1).1;rcases hb with hb | hb | hb
    ·exact .inl (e ▸ hb)
    ·cases o0 with
     | box cs=>exact False.elim hb
     | row sz xs ex fz=>exact False.elim hb
     | deep sz ns xs lk=>exact .inr (.inl (by obtain⟨g,p,h2,h3⟩:=hb;exact⟨g,p,e ▸ h2,h3⟩))
    ·cases o0 with
     | box cs=>exact .inr (.inr ((Buf.unmap (Zci _) hb).ren e.symm))
     | row sz xs ex fz=>exact False.elim hb
     | deep sz ns xs lk=>exact False.elim hb
   have bo:∀ (id:Nat) (o0:Zl) (b:Nat),id∉ids→lkp hp id=some o0→Blk Γ2 w' id (if (if cl then [] else ae).contains id then VD (XV (ids.filter fun i=>Y1 (lkp hp i)) o0) else XV (ids.filter fun i=>Y1 (lkp hp i)) o0) b→Blk Γ w id o0 b:=by
    intro id o0 b ai hl hb;have hb:=ZgP hb;have h1:Blk Γ2 w' id o0 b:=by
     rcases hb with hb | hb | hb
     ·exact .inl hb
     ·cases o0 with
      | box cs=>exact False.elim hb
      | row sz xs ex fz=>exact False.elim hb
      | deep sz ns xs lk=>exact .inr (.inl hb)
     ·cases o0 with
      | box cs=>exact .inr (.inr (Buf.unmap (Jb _) hb))
      | row sz xs ex fz=>exact False.elim hb
      | deep sz ns xs lk=>exact False.elim hb
    exact h1.back (ao id o0 ai hl) fun g hg=>aa.fr.block g (h.blk_lt hl (.inl hg)) (ab id o0 g ai hl (.inl hg))
   intro i j o o' b hi hj bi bj;rcases br i o hi with ⟨k,o0,h1,rfl,rfl⟩ | ⟨ai,o0,aj,rfl⟩<;>rcases br j o' hj with ⟨k',o1,h2,rfl,rfl⟩ | ⟨a3,o1,bl,rfl⟩
   ·have:=aa.inj k k' o0 o1 b (by rw[Y7];simpa using h1) (by rw[Y7];simpa using h2) (bk k o0 b h1 bi) (bk k' o1 b h2 bj);rw[this]
   ·exact absurd (Zif (aa.objs k o0 (by rw[Y7];simpa using h1)) (bk k o0 b h1 bi)) (ab j o1 b a3 bl (bo j o1 b a3 bl bj))
   ·exact absurd (Zif (aa.objs k' o1 (by rw[Y7];simpa using h2)) (bk k' o1 b h2 bj)) (ab i o0 b ai aj (bo i o0 b ai aj bi))
   ·exact h.inj i j o0 o1 b aj bl (bo i o0 b ai aj bi) (bo j o1 b a3 bl bj)
  ·intro id an;show Zei Γ Γ' ids base id=none;simp only[Zei];rw[Kd,Kd]
   ·exact h.names id (fun hu=>an (.inl hu))
   ·exact fun hh=>an (.inr hh)
   ·intro hm;obtain⟨o,ho⟩:=ap id hm;exact an (.inl (h.id_in ho))
end
end Go.Abs
