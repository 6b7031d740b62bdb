/- Own text. -/
import Derived.Test.YtcefneehgbiebaaGreatDoorAbsCall2
set_option linter.unusedVariables false
set_option linter.unusedSimpArgs false
namespace Go.Abs
open Go
theorem ZgX : ∀ (l:Hp) (hp:Hp) (id:Nat) (o:Zm),lkp (Zh hp l) id=some o→(id,o)∈l∨((∀ o',(id,o')∉l)∧lkp hp id=some o)
 | [],hp,id,o,h=>.inr ⟨by simp,h⟩
 | (k,x) :: r,hp,id,o,h=>by
  rcases ZgX r (ins hp k x) id o h with h1 | ⟨h1,h2⟩
  ·exact .inl (KA _ h1)
  ·rw[Qm] at h2;split at h2
   ·rename_i hk;subst hk;cases h2;exact .inl (K5 ..)
   ·rename_i hk;refine .inr ⟨fun o' hm=>?_,h2⟩;rcases Kd.1 hm with hm | hm
    ·cases hm;exact hk rfl
    ·exact h1 o' hm
theorem ZfF (g:Nat→Nat):∀ (ids:List Nat) (out:List Zm) (id:Nat) (o:Zm),(id,o)∈Zc8 g ids out→∃ (k:Nat) (o0:Zm),ids[k]?=some id∧out[k]?=some o0∧o=Zm5 g o0
 | [],out,id,o,h=>by simp[Zc8] at h
 | i :: ids,[],id,o,h=>by simp[Zc8] at h
 | i :: ids,o1 :: out,id,o,h=>by
  simp only[Zc8] at h;rcases Kd.1 h with h | h
  ·cases h;exact⟨0,o1,by simp,by simp,rfl⟩
  ·obtain⟨k,o0,h1,h2,h3⟩:=ZfF g ids out id o h;exact⟨k+1,o0,by simpa using h1,by simpa using h2,h3⟩
theorem Zos (g:Nat→Nat):∀ (ids:List Nat) (out:List Zm) (id:Nat),ids.length≤out.length→id∈ids→∃ o,(id,o)∈Zc8 g ids out
 | [],out,id,_,h=>by simp at h
 | i :: ids,[],id,hl,h=>by simp at hl
 | i :: ids,o1 :: out,id,hl,h=>by
  simp only[Zc8];rcases Kd.1 h with h | h
  ·subst h;exact⟨_,K5 ..⟩
  ·obtain⟨o,ho⟩:=Zos g ids out id (by simpa using hl) h;exact⟨o,KA _ ho⟩
theorem Zot (g:Nat→Nat):∀ (out:List Zm) (k id:Nat) (o:Zm),(id,o)∈Zc9 g k out→∃ (j:Nat) (o0:Zm),out[j]?=some o0∧id=k+j∧o=Zm5 g o0
 | [],k,id,o,h=>by simp[Zc9] at h
 | o1 :: out,k,id,o,h=>by
  simp only[Zc9] at h;rcases Kd.1 h with h | h
  ·cases h;exact⟨0,o1,by simp,rfl,rfl⟩
  ·obtain⟨j,o0,h1,h2,h3⟩:=Zot g out (k+1) id o h;exact⟨j+1,o0,by simpa using h1,by omega,h3⟩
theorem Zou (g:Nat→Nat):∀ (out:List Zm) (k j:Nat),j<out.length→∃ o,(k+j,o)∈Zc9 g k out
 | [],k,j,h=>by simp at h
 | o1 :: out,k,0,h=>⟨_,by simp only[Zc9];exact K5 ..⟩
 | o1 :: out,k,j+1,h=>by
  obtain⟨o,ho⟩:=Zou g out (k+1) j (by simpa using h);refine⟨o,?_⟩;simp only[Zc9];have:k+(j+1)=k+1+j:=by omega
  rw[this];exact KA _ ho
theorem ZB7 (x:AV):ZeQ (fun k=>k) x=x:=by cases x<;>rfl
theorem Zoc (x:AV):ZeR (fun k=>k) x=x:=by
 cases x<;>first | rfl | (simp only[ZeR];congr 1;rw[KS (g:=id) (fun a _=>ZB7 a),Lu])
theorem Zvd (xs:List AV):xs.map (ZeR fun k=>k)=xs:=by
 rw[KS (g:=id) (fun a _=>Zoc a),Lu]
theorem ren_id (x:AV):ren (fun k=>k) x=x:=by
 cases x with
 | tup vs=>simp only[ren];congr 1;rw[KS (g:=id) (fun a _=>Zoc a),Lu]
 | d x=>rfl
 | nil=>rfl
 | nilp=>rfl
 | nili=>rfl
 | ptr a b=>rfl
 | prow a b c d=>rfl
 | pim c=>rfl
 | own a=>rfl
 | ownv a b c=>rfl
 | sub a b=>rfl
 | bnil a b=>rfl
 | bbuf a b=>rfl
 | agg cs=>exact Zoc (.agg cs)
 | clo f cs=>exact Zoc (.clo f cs)
 | junk=>rfl
theorem Za3 (x:AV):Qf [] x=x:=by cases x<;>simp[Qf]
theorem ZeT (x:AV):ZV [] x=x:=by
 cases x<;>first | (simp only[ZV];congr 1;rw[KS (g:=id) (fun a _=>Za3 a),Lu]) | simp[ZV,Qf]
theorem ZAE (x:AV):kill [] x=x:=by
 cases x with
 | tup vs=>simp only[kill];congr 1;rw[KS (g:=id) (fun a _=>ZeT a),Lu]
 | d x=>rfl
 | nil=>rfl
 | nilp=>rfl
 | nili=>rfl
 | ptr a b=>exact Za3 (.ptr a b)
 | prow a b c d=>exact Za3 (.prow a b c d)
 | pim c=>rfl
 | own a=>exact Za3 (.own a)
 | ownv a b c=>exact Za3 (.ownv a b c)
 | sub a b=>exact Za3 (.sub a b)
 | bnil a b=>exact Za3 (.bnil a b)
 | bbuf a b=>rfl
 | agg cs=>exact ZeT (.agg cs)
 | clo f cs=>exact ZeT (.clo f cs)
 | junk=>rfl
theorem Zzh (o:Zm):XZ [] o=o:=by
 cases o with
 | box cs=>simp only[XZ];congr 1;rw[KS (g:=id) (fun a _=>ZeT a),Lu]
 | row s x e f=>rfl
 | deep s n x l=>cases l<;>simp[XZ,ZgT]
theorem QX (gone:List Nat) (sl:Sl) (t:Nat):gs (Xe gone sl) t=kill gone (gs sl t):=by
 unfold Xe;split
 ·rw[ZAE]
 ·simp only[gs,Zdl];cases lkp sl t<;>rfl
theorem VI (gone:List Nat) (hp:Hp) (id:Nat):lkp (Ve gone hp) id=(lkp hp id).map (XZ gone):=by
 unfold Ve;split
 ·cases h:lkp hp id with
  | none=>rfl
  | some o=>simp[Zzh]
 ·exact Zdl _ _ _
section
variable {P:Program} {nt:Nat} {U:Nat→Prop} {F A I:Nat→Prop} {Γ:Gh} {sl:Sl} {hp:Hp} {a:Act} {w:World}
theorem Zi5 {I2:Nat→Prop} {x:AV} {v:Value} (hc:Zc7 x=true) (h:Vj Γ w I x v):Vj Γ w I2 x v:=by
 cases x with
 | d x=>exact⟨h.1,Zpv hc h.2⟩
 | pim cs=>cases hc
 | agg cs=>exact h
 | tup cs=>exact h
 | clo f cs=>exact h
 | _=>exact h
theorem ZdS {I2:Nat→Prop}:∀ {xs:List AV} {vs:List Value},xs.all Zc7=true→Zu (Vj Γ w I) xs vs→Zu (Vj Γ w I2) xs vs
 | [],[],_,_=>trivial
 | [],_ :: _,_,h=>h.elim
 | _ :: _,[],_,h=>h.elim
 | x :: xs,v :: vs,hc,h=>by
  simp only[Lr,Kf] at hc;exact⟨Zi5 hc.1 h.1,ZdS hc.2 h.2⟩
theorem Zov {I2:Nat→Prop} {x:AV} {v:Value} (hc:Zek x=true) (h:Zac Γ w I x v):Zac Γ w I2 x v:=by
 by_cases hs:x.small=true
 ·rw[(Uh hs v).2.1] at h ⊢;refine Zi5 ?_ h;cases x<;>first | exact hc | cases hs
 ·cases x with
  | agg cs=>obtain⟨us,h1,h2⟩:=h;exact⟨us,h1,ZdS hc h2⟩
  | clo f cs=>obtain⟨us,h1,h2⟩:=h;exact⟨us,h1,ZdS hc h2⟩
  | tup cs=>exact h.elim
  | d x=>exact Zpg.2 (Zs3 hc (Zpg.1 h))
  | _=>exact absurd rfl hs
theorem Zw0 {I2:Nat→Prop} {x:AV} {v:Value} (hc:Zek x=true) (h:XO Γ w I x v):XO Γ w I2 x v:=by
 by_cases hs:x.small=true
 ·rw[(Uh hs v).2.2] at h ⊢;refine Zi5 ?_ h;cases x<;>first | exact hc | cases hs
 ·cases x with
  | agg cs=>exact h.elim
  | clo f cs=>obtain⟨us,h1,h2⟩:=h;exact⟨us,h1,ZdS hc h2⟩
  | tup cs=>exact h.elim
  | d x=>exact⟨h.1,Zpv hc h.2⟩
  | _=>exact absurd rfl hs
theorem Zmq {I2:Nat→Prop}:∀ {xs:List AV} {vs:List Value},xs.all Zek=true→Zu (XO Γ w I) xs vs→Zu (XO Γ w I2) xs vs
 | [],[],_,_=>trivial
 | [],_ :: _,_,h=>h.elim
 | _ :: _,[],_,h=>h.elim
 | x :: xs,v :: vs,hc,h=>by
  simp only[Lr,Kf] at hc;exact⟨Zw0 hc.1 h.1,Zmq hc.2 h.2⟩
theorem Zmr {I2:Nat→Prop}:∀ {xs:List AV} {vs:List Value},xs.all Zek=true→Zu (Zac Γ w I) xs vs→Zu (Zac Γ w I2) xs vs
 | [],[],_,_=>trivial
 | [],_ :: _,_,h=>h.elim
 | _ :: _,[],_,h=>h.elim
 | x :: xs,v :: vs,hc,h=>by
  simp only[Lr,Kf] at hc;exact⟨Zov hc.1 h.1,Zmr hc.2 h.2⟩
theorem Zzi {I2:Nat→Prop} {x:AV} {v:Value} (hc:ZsQ x=true) (h:Rep Γ w I x v):Rep Γ w I2 x v:=by
 by_cases ht:∃ vs,x=.tup vs
 ·obtain⟨vs,rfl⟩:=ht;obtain⟨us,h1,h2⟩:=h;exact⟨us,h1,Zmr hc h2⟩
 ·have e:∀ I,Rep Γ w I x v=Zac Γ w I x v:=fun I=>by cases x<;>first | rfl | exact absurd ⟨_,rfl⟩ ht
  rw[e] at h ⊢;refine Zov ?_ h;cases x<;>first | exact hc | exact absurd ⟨_,rfl⟩ ht
theorem Sim.blk_F (h:Sim nt F A I Γ U sl hp a w) {id:Nat} {o:Zm} (hl:lkp hp id=some o) {b:Nat} (hb:Blk Γ w id o b):F b:=ZiP (h.objs id o hl) hb
def Zzj (Γ:Gh) (w:World) (hp:Hp) (ids:List Nat) (n:Nat) (b:Nat):Prop:=n≤b∨∃ id∈ids,∃ o,lkp hp id=some o∧Blk Γ w id o b
def calA (Γ:Gh) (w:World) (hp:Hp) (ids:List Nat) (n:Nat) (I A:Nat→Prop) (b:Nat):Prop:=Zzj Γ w hp ids n b∨(I b∧A b)
def ZeU (Γ Γ' : Gh) (ids:List Nat) (base:Nat):Gh:=fun id=>if id∈ids then Γ' (WH ids id) else if base≤id∧id<base+64 then Γ' (ids.length+(id-base)) else Γ id
theorem Zzk (h:Sim nt F A I Γ U sl hp a w) {base:Nat} (hb:Xp U base) {ids ae:List Nat} (bz:ids.Nodup) (ap:∀ id∈ids,∃ o,lkp hp id=some o) (a7:¬ae.any ids.contains=true)
  {r:AV} {out:List Zm} {I' : Nat→Prop} {Γ' : Gh} {v:Value} {w' : World}
  (aa:Zzg (Zzj Γ w hp ids w.heap.size) (calA Γ w hp ids w.heap.size I A) (Zhm Γ w hp I ae) (ZgV ids Γ) w out r I' Γ' v w')
  {ce:Zd} (a4:J8 hp base ids ae r out=some ce) (bv:QZ base (base+64) ce.eff.adds=true) {dst:Option Nat} (hd:Xb nt dst=true) :
  UZ nt F A I Γ w (Zad U base) (ce.on dst sl hp).1 (ce.on dst sl hp).2 (a.put dst v) w':=by
 unfold J8 at a4;split at a4
 ·cases a4
 rename_i a8;have a8:ids.length≤out.length:=by omega
 split at a4
 ·cases a4
 rename_i au;cases a4;generalize av:(ZsQ r&&out.all Zjc)=cl at *;dsimp only at bv;have a9:∀ id∈ids,¬(base≤id∧id<base+64):=fun id an hh=>by
  obtain⟨o,ho⟩:=ap id an;exact hb id hh.1 hh.2 (h.id_in ho)
 have bm:(out.drop ids.length).length≤64:=by
  rcases KZ 64 (out.drop ids.length).length with b0 | bm
  ·obtain⟨o,ho⟩:=Zou (WW ids base) (out.drop ids.length) base 64 b0;have:=(Ul bv _ _ ho).2;omega
  ·exact bm
 have b1 : out.length≤ids.length+64:=by simp at bm;omega
 have ax:∀ b,Zzj Γ w hp ids w.heap.size b→F b:=by
  rintro b (hb | ⟨id,an,o,ho,ah⟩)
  ·exact h.fresh b hb
  ·exact h.blk_F ho ah
 have b2:∀ b,calA Γ w hp ids w.heap.size I A b→A b:=by
  rintro b (hb | hb)
  ·exact h.own b (ax b hb)
  ·exact hb.2
 have ba:∀ b,Zhm Γ w hp I ae b→¬I b→¬Zzj Γ w hp ids w.heap.size b:=by
  rintro b ay ai (hb | ⟨id,an,o,ho,ah⟩)
  ·rcases ay with ay | ⟨aw,am,o',a0,bg,a1⟩
   ·exact ai ay
   ·have:=h.blk_lt a0 a1;omega
  ·rcases ay with ay | ⟨aw,am,o',a0,bg,a1⟩
   ·exact ai ay
   ·have:=h.inj id aw o _ b ho a0 ah a1;subst this;exact a7 (L6.2 ⟨id,am,by simpa using an⟩)
 let I2:Nat→Prop:=fun b=>I' b∧(cl=true→Zhm Γ w hp I ae b→I b)
 let Γ2:Gh:=ZeU Γ Γ' ids base
 have bn:∀ b,I b→I2 b:=fun b hb=>⟨aa.keeps.sub b (.inl hb),fun _ _=>hb⟩
 have ag:ZR I I2 w w':=⟨bn,fun b hb=>aa.keeps.blk b (.inl hb)⟩
 have b3:∀ b,I' b→calA Γ w hp ids w.heap.size I A b→I2 b∧A b:=by
  intro b h1 h2;refine⟨⟨h1,fun _ ay=>?_⟩,b2 b h2⟩;rcases h2 with h2 | h2
  ·exact Classical.byContradiction fun ai=>ba b ay ai h2
  ·exact h2.1
 have af:∀ k,k<out.length→Γ2 (WW ids base k)=Γ' k:=by
  intro k bh;by_cases hk:k<ids.length
  ·have hg:ids[k]?=some ids[k]:=Kn hk;have hb:WW ids base k=ids[k]:=by simp[WW,hg,Zjd]
   show ZeU Γ Γ' ids base _=_;rw[hb];simp only[ZeU];rw[Kh (List.getElem_mem hk),ZhY bz hg]
  ·have hg:ids[k]?=none:=KW (by omega);have hb:WW ids base k=base+(k-ids.length):=by simp[WW,hg,Zjd]
   show ZeU Γ Γ' ids base _=_;rw[hb];simp only[ZeU];rw[Ke (fun hm=>a9 _ hm (by omega)),Kh (by omega)];congr 1
   omega
 have bb:∀ l,Zbu Γ' Γ2 (WW ids base) l:=fun l id _ r hr=>by
  rw[af id ?_]
  ·exact hr
  ·rcases KZ id out.length with h1 | h1
   ·exact h1
   ·rw[aa.names id h1] at hr;cases hr
 have aq:∀ id b,Γ id=some (.box b)→Γ2 id=some (.box b):=by
  intro id b hg;show ZeU Γ Γ' ids base id=_;simp only[ZeU];split
  ·rename_i hm;refine aa.boxes _ b ?_;rw[WT (ZjU hm).2];exact hg
  ·split
   ·rename_i a5;rw[h.names id (hb id a5.1 a5.2)] at hg;cases hg
   ·exact hg
 have ar:∀ id,id∉(ids.filter fun i=>Vb (lkp hp i))→∀ r,Γ id=some r→Γ2 id=some r:=by
  intro id bw r hr;by_cases hm:id∈ids
  ·obtain⟨o,ho⟩:=ap id hm;cases o with
   | box cs=>
    obtain⟨b,cur,e,h1,_⟩:=h.objs id _ ho;rw[h1] at hr;cases hr;exact aq id _ h1
   | row sz xs ex fz=>exact absurd (by simp[hm,ho,Vb]) bw
   | deep sz ns xs lk=>exact absurd (by simp[hm,ho,Vb]) bw
  ·show ZeU Γ Γ' ids base id=_;simp only[ZeU];rw[Ke hm];split
   ·rename_i a5;rw[h.names id (hb id a5.1 a5.2)] at hr;cases hr
   ·exact hr
 have ao:∀ id o,id∉ids→lkp hp id=some o→Γ2 id=Γ id:=by
  intro id o hm hl;show ZeU Γ Γ' ids base id=_;simp only[ZeU];rw[Ke hm,Ke (fun hh=>hb id hh.1 hh.2 (h.id_in hl))]
 have bp:∀ (k:Nat) (o:Zm),out[k]?=some o→Wa Γ2 w' I2 F A (WW ids base k) (Zm5 (WW ids base) o):=by
  intro k o ho;have bh:k<out.length:=(Kb.1 ho).1;have h1:=aa.objs k o (by rw[Vh];simpa using ho);cases o with
  | deep sz ns xs lk=>
   obtain⟨ad,n,c,h2,h3,_⟩:=h1;exact⟨ad,n,c,by rw[af k bh];exact h2,h3.give (fun b _ hb=>⟨ax b hb,fun hi=>hi.1⟩) (fun g p b _ _ _ hb=>⟨ax b hb,fun hi=>hi.1⟩),trivial⟩
  | box cs=>
   obtain⟨b,cur,e,h2,h3,h4,h5,h6,bq⟩:=h1;refine⟨b,cur,e,by rw[af k bh];exact h2,h3,fun hi=>h4 hi.1,ax b h5,?_,(bq.mono fun x te l u v g hc hv hg=>⟨rfl,fun hi=>hi.1,fun hF=>ax g hF⟩).map (ZcR _)⟩;have h7:Zu (XO Γ' w' I2) cs cur.toList:=by
    cases hq:cl with
    | false=>exact h6.mono fun _ _ h=>h.mono (Q9.refl _) ⟨fun b hb=>⟨hb,fun ak=>by rw[hq] at ak;cases ak⟩,fun _ _=>rfl⟩
    | true=>
     rw[hq] at av;simp only[Kf] at av;exact Zmq (KT.1 av.2 _ (Kc ho)) h6
   exact ZeS (bb _) (ZR.refl I2 w') h7
  | row sz xs ex fz=>
   obtain⟨ad,n,c,h2,h3,h4⟩:=h1;refine⟨ad,n,c,by rw[af k bh];exact h2,h3,?_⟩;rcases h4 with h4 | ⟨g,cur,e,rfl,hc,hw,h5,h6,h7,h8,h9,a6,a2⟩
   ·exact .inl h4
   ·have bc:cl=true→ex=true∧fz=false:=by
     intro hq;rw[hq] at av;simp only[Kf] at av;have:=KT.1 av.2 _ (Kc ho);simpa [Zjc] using this
    refine .inr ⟨g,cur,e,rfl,hc,hw,h5,h6,h7,h8,?_,ax g a6,?_⟩
    ·cases fz
     ·simp at h9 ⊢;exact fun hi=>h9 hi.1
     ·simp at h9 ⊢;exact⟨h9,fun hq=>by have:=(bc hq).2;cases this⟩
    ·cases ex
     ·have:cl=false:=by cases hq:cl with
       | false=>rfl
       | true=>have:=(bc hq).1;cases this
      exact a2.mono' ⟨fun b hb=>⟨hb,fun ak=>by rw[this] at ak;cases ak⟩,fun _ _=>rfl⟩ rfl
     ·simp only[Km] at a2 ⊢;exact a2.mono' ⟨fun b hb=>b3 b hb.1 hb.2,fun _ _=>rfl⟩ rfl
 have br:∀ id o,lkp (Zh (Zh (Qs (Qi (if cl then [] else ae) (Ve (ids.filter fun i=>Vb (lkp hp i)) hp)) []) (Zc8 (WW ids base) ids out)) (Zc9 (WW ids base) base (out.drop ids.length))) id=some o →
   (∃ (k:Nat) (o0:Zm),out[k]?=some o0∧id=WW ids base k∧o=Zm5 (WW ids base) o0) ∨
   (id∉ids∧∃ o0,lkp hp id=some o0∧o=(if (if cl then [] else ae).contains id then VQ (XZ (ids.filter fun i=>Vb (lkp hp i)) o0) else XZ (ids.filter fun i=>Vb (lkp hp i)) o0)):=by
  intro id o hl;rcases Zbc _ _ _ _ hl with hm | hm
  ·obtain⟨j,o0,h1,h2,h3⟩:=Zot _ _ _ _ _ hm;rw[Ll] at h1;refine .inl ⟨ids.length+j,o0,h1,?_,h3⟩;have hg:ids[ids.length+j]?=none:=KW (by omega);simp only[WW,hg,Zjd];omega
  ·rcases ZgX _ _ _ _ hm with hm | ⟨b4,hm⟩
   ·obtain⟨k,o0,h1,h2,h3⟩:=ZfF _ _ _ _ _ hm;exact .inl ⟨k,o0,h2,by simp[WW,h1,Zjd],h3⟩
   ·simp only[Qs] at hm;rw[Qd,VI] at hm;have ai:id∉ids:=fun hi=>by obtain⟨o',bs⟩:=Zos (WW ids base) ids out id a8 hi;exact b4 o' bs
    cases aj:lkp hp id with
    | none=>rw[aj] at hm;cases hm
    | some o0=>
     rw[aj] at hm;simp only[KI,Option.some.injEq] at hm;exact .inr ⟨ai,o0,rfl,hm.symm⟩
 have ab:∀ id o b,id∉ids→lkp hp id=some o→Blk Γ w id o b→¬Zzj Γ w hp ids w.heap.size b:=by
  rintro id o b ai hl ah (a5 | ⟨aw,am,o',bs,a1⟩)
  ·have:=h.blk_lt hl ah;omega
  ·have:=h.inj id aw o o' b hl bs ah a1;exact ai (this ▸ am)
 refine⟨I2,Γ2,aq,ag,?_,?_,?_⟩
 ·intro b hb;rcases aa.sub b hb.1 with h1 | h1
  ·exact h.frozeL_F h1
  ·exact .inr (ax b h1)
 ·exact⟨aa.fr.os,aa.fr.tape,aa.fr.output,aa.fr.size,fun k hk b5=>aa.fr.block k hk fun hc=>b5 (ax k hc)⟩
 ·refine { nt:=by rw[Zv4];exact h.nt,dfr:=by rw[Zps];exact h.dfr,slots:=?_,objs:=?_,inj:=?_,bound:=fun b hb=>aa.bound b hb.1,fresh:=fun b hb=>h.fresh b (by have:=aa.fr.size;omega),own:=h.own,names:=?_,glob:=h.glob.mono ag }
  ·intro t;show Rep Γ2 w' I2 (gs (Zt (Xe (ids.filter fun i=>Vb (lkp hp i)) sl) dst (ren (WW ids base) r)) t) _;rw[Qz,ZyS h.nt hd];split
   ·have h1:Rep Γ' w' I2 r v:=by
     cases hq:cl with
     | false=>exact aa.res.mono (Q9.refl _) ⟨fun b hb=>⟨hb,fun ak=>by rw[hq] at ak;cases ak⟩,fun _ _=>rfl⟩
     | true=>
      rw[hq] at av;simp only[Kf] at av;exact Zzi av.1 aa.res
    exact Zob (bb _) (ZR.refl I2 w') h1
   ·rw[QX];have h1:=Zu8 (bad:=ids.filter fun i=>Vb (lkp hp i)) (h.slots t);have h2:=Zob (g:=fun k=>k) (fun id an r hr=>ar id (Zla _ _ id an).2 r hr) ag h1
    rwa [ren_id] at h2
  ·intro id o hl;rcases br id o hl with ⟨k,o0,h1,rfl,rfl⟩ | ⟨ai,o0,aj,rfl⟩
   ·exact bp k o0 h1
   ·have al:∀ b,Blk Γ w id o0 b→w'.heap[b]?=w.heap[b]?:=fun b hb=>aa.fr.block b (h.blk_lt aj hb) (ab id o0 b ai aj hb);have bd:(if cl=true then [] else ae).contains id=true→cl=false∧id∈ae:=by
     intro hq;cases bt:cl<;>rw[bt] at hq<;>simp at hq
     exact⟨rfl,hq⟩
    have be:∀ b,Blk Γ w id o0 b→((if cl=true then [] else ae).contains id=false∨o0.soft=false)→I2 b→I b:=by
     intro b ah az hi;rcases aa.sub b hi.1 with h1 | h1
     ·rcases h1 with h1 | ⟨aw,am,o',a0,bg,a1⟩
      ·exact h1
      ·have he:=h.inj id aw _ _ b aj a0 ah a1;subst he;rw[aj] at a0;cases a0;cases hq:cl with
       | true=>exact hi.2 hq (.inr ⟨id,am,_,aj,bg,ah⟩)
       | false=>
        rcases az with az | az
        ·rw[hq] at az;simp at az;exact absurd am az
        ·rw[bg] at az;cases az
     ·exact absurd h1 (ab id o0 b ai aj ah)
    have ho:=h.objs id o0 aj;have hG:=ao id o0 ai aj;cases o0 with
    | deep sz ns xs lk=>
     cases hq:(if cl=true then [] else ae).contains id with
     | true=>
      obtain⟨bt,bu⟩:=bd hq;exfalso
      rw[bt] at au;simp only[Bool.not_false,Bool.true_and,LP] at au;have:ae.any (fun i=>Zb2 (lkp hp i))=true:=L6.2 ⟨id,bu,by rw[aj];rfl⟩;rw[this] at au;cases au
     | false=>
      simp only[Ka,Kq];obtain⟨ad,n,c,h2,h3,h4⟩:=ho;refine⟨ad,n,c,by rw[hG,h2],h3.mono ag (fun b hb=>have:=Or.inl (h2 ▸ hb);⟨al b this,be b this (.inl hq)⟩) (fun g p b hg hp hb=>have:=Or.inr (Or.inl ⟨g,p,h2 ▸ hg,hp,hb⟩);⟨al b this,be b this (.inl hq)⟩),?_⟩;cases lk with
      | none=>exact trivial
      | some q=>
       simp only[ZgT];split
       ·exact trivial
       ·rename_i b6;obtain⟨nm,i,j⟩:=q;obtain⟨g',a',n',c',b7,h5,h6,h7,h8,h9⟩:=h4;refine⟨g',a',n',c',b7,h5,ar nm (by simpa using b6) _ h6,h7,h8,?_⟩;subst h5;have b8:ZB (Γ id)=some g':=by
         rw[h2];rcases h3.2 with a6 | ⟨_,_,_,_,a6,_⟩
         ·have:=h3.1;omega
         ·simp[ZB,KG a6]
        rw[World.cell?_of_block (w:=w) (a:=⟨g',i*sz+j,none⟩) (al g' (.inl b8))];exact h9
    | box cs=>
     have hz:(if (if cl=true then [] else ae).contains id=true then VQ (XZ (ids.filter fun i=>Vb (lkp hp i)) (.box cs)) else XZ (ids.filter fun i=>Vb (lkp hp i)) (.box cs))=.box (cs.map (ZV (ids.filter fun i=>Vb (lkp hp i)))):=by
      cases (if cl=true then [] else ae).contains id<;>rfl
     rw[hz];obtain⟨b,cur,e,h2,h3,h4,h5,h6,bq⟩:=ho;have ah:Blk Γ w id (.box cs) b:=.inl (by rw[h2];rfl);refine⟨b,cur,e,by rw[hG,h2],by rw[al b ah,h3],fun hi=>h4 (be b ah (.inr rfl) hi),h5,?_,(bq.mono fun x te l u v g hc hv hg=>have hB:=Or.inr (Or.inr (ZxW h2 h3 hc hv hg));⟨al g hB,be g hB (.inr rfl),fun h=>h⟩).map (JC _)⟩;have h7:=h6.map_left (S:=XO Γ w I) (f:=ZV (ids.filter fun i=>Vb (lkp hp i))) fun _ _ h=>Zk8 h;have h8:=ZeS (g:=fun k=>k) (Γ':=Γ2) (fun aw an r hr=>ar aw (by
      obtain⟨y,hy,an⟩:=Ky.1 an;obtain⟨x,hx,rfl⟩:=Ld.1 hy;exact(ZfE _ x aw an).2) r hr) ag h7
     rwa [Zvd] at h8
    | row sz xs ex fz=>
     obtain⟨ad,n,c,h2,h3,h4⟩:=ho;have hz:∃ bf,(if (if cl=true then [] else ae).contains id=true then VQ (XZ (ids.filter fun i=>Vb (lkp hp i)) (.row sz xs ex fz)) else XZ (ids.filter fun i=>Vb (lkp hp i)) (.row sz xs ex fz))=.row sz xs ex bf ∧
       (bf=false→fz=false∧(if cl=true then [] else ae).contains id=false)∧(bf=true→fz=true∨(fz=false∧cl=false∧id∈ae)):=by
      cases hq:(if cl=true then [] else ae).contains id with
      | true=>
       refine⟨true,rfl,(fun h=>by cases h),fun _=>?_⟩;cases fz
       ·exact .inr ⟨rfl,bd hq⟩
       ·exact .inl rfl
      | false=>exact⟨fz,rfl,fun hf=>⟨hf,rfl⟩,fun hf=>.inl hf⟩
     obtain⟨bf,hz,b9,b'⟩:=hz;rw[hz];refine⟨ad,n,c,by rw[hG,h2],h3,?_⟩;rcases h4 with h4 | ⟨g,cur,e,rfl,hc,hw,h5,h6,h7,h8,h9,a6,a2⟩
     ·exact .inl h4
     ·have ah:Blk Γ w id (.row sz xs ex fz) g:=.inl (by rw[h2];simp[ZB,KG hc]);refine .inr ⟨g,cur,e,rfl,hc,by rw[al g ah,hw],h5,h6,h7,h8,?_,a6,?_⟩
      ·cases bf with
       | false=>
        obtain⟨hf,hq⟩:=b9 rfl;rw[hf] at h9;simp at h9 ⊢;exact fun hi=>h9 (be g ah (.inl hq) hi)
       | true=>
        simp;rcases b' rfl with hf | ⟨hf,hq,bu⟩
        ·rw[hf] at h9;simp at h9;exact bn g h9
        ·subst hf;exact⟨aa.keeps.sub g (.inr ⟨id,bu,_,aj,rfl,ah⟩),fun bx=>by rw[hq] at bx;cases bx⟩
      ·cases ex
       ·exact a2.mono' ag (al g ah)
       ·simp only[Km] at a2 ⊢;exact a2.mono' ⟨fun b hb=>⟨bn b hb.1,hb.2⟩,fun b hb=>ag.blk b hb.1⟩ (al g ah)
  ·have bk:∀ (k:Nat) (o0:Zm) (b:Nat),out[k]?=some o0→Blk Γ2 w' (WW ids base k) (Zm5 (WW ids base) o0) b→Blk Γ' w' k o0 b:=by
    intro k o0 b h1 hb;have e:=af k (Kb.1 h1).1;rcases hb with hb | hb | hb
    ·exact .inl (e ▸ hb)
    ·cases o0 with
     | box cs=>exact False.elim hb
     | row sz xs ex fz=>exact False.elim hb
     | deep sz ns xs lk=>exact .inr (.inl (by obtain⟨g,p,h2,h3⟩:=hb;exact⟨g,p,e ▸ h2,h3⟩))
    ·cases o0 with
     | box cs=>exact .inr (.inr ((Buf.unmap (ZcR _) hb).ren e.symm))
     | row sz xs ex fz=>exact False.elim hb
     | deep sz ns xs lk=>exact False.elim hb
   have bo:∀ (id:Nat) (o0:Zm) (b:Nat),id∉ids→lkp hp id=some o0→Blk Γ2 w' id (if (if cl then [] else ae).contains id then VQ (XZ (ids.filter fun i=>Vb (lkp hp i)) o0) else XZ (ids.filter fun i=>Vb (lkp hp i)) o0) b→Blk Γ w id o0 b:=by
    intro id o0 b ai hl hb;have hb:=Zhn hb;have h1:Blk Γ2 w' id o0 b:=by
     rcases hb with hb | hb | hb
     ·exact .inl hb
     ·cases o0 with
      | box cs=>exact False.elim hb
      | row sz xs ex fz=>exact False.elim hb
      | deep sz ns xs lk=>exact .inr (.inl hb)
     ·cases o0 with
      | box cs=>exact .inr (.inr (Buf.unmap (JC _) hb))
      | row sz xs ex fz=>exact False.elim hb
      | deep sz ns xs lk=>exact False.elim hb
    exact h1.back (ao id o0 ai hl) fun g hg=>aa.fr.block g (h.blk_lt hl (.inl hg)) (ab id o0 g ai hl (.inl hg))
   intro i j o o' b hi hj bi bj;rcases br i o hi with ⟨k,o0,h1,rfl,rfl⟩ | ⟨ai,o0,aj,rfl⟩<;>rcases br j o' hj with ⟨k',o1,h2,rfl,rfl⟩ | ⟨a3,o1,bl,rfl⟩
   ·have:=aa.inj k k' o0 o1 b (by rw[Vh];simpa using h1) (by rw[Vh];simpa using h2) (bk k o0 b h1 bi) (bk k' o1 b h2 bj);rw[this]
   ·exact absurd (ZiP (aa.objs k o0 (by rw[Vh];simpa using h1)) (bk k o0 b h1 bi)) (ab j o1 b a3 bl (bo j o1 b a3 bl bj))
   ·exact absurd (ZiP (aa.objs k' o1 (by rw[Vh];simpa using h2)) (bk k' o1 b h2 bj)) (ab i o0 b ai aj (bo i o0 b ai aj bi))
   ·exact h.inj i j o0 o1 b aj bl (bo i o0 b ai aj bi) (bo j o1 b a3 bl bj)
  ·intro id an;show ZeU Γ Γ' ids base id=none;simp only[ZeU];rw[Ke,Ke]
   ·exact h.names id (fun hu=>an (.inl hu))
   ·exact fun hh=>an (.inr hh)
   ·intro hm;obtain⟨o,ho⟩:=ap id hm;exact an (.inl (h.id_in ho))
end
end Go.Abs
