/- The abstract semantics and the model: calls. Own text. -/
import Derived.Test.YtkdjbefmiiibpaaGreatDoorAbsCall2
set_option linter.unusedVariables false
set_option linter.unusedSimpArgs false
namespace Go.Abs
open Go
theorem Ziq : ∀ (l:Hp) (hp:Hp) (id:Nat) (o:Zo),lkp (Zg hp l) id=some o→(id,o)∈l∨((∀ o',(id,o')∉l)∧lkp hp id=some o)
 | [],hp,id,o,h=>.inr ⟨by simp,h⟩
 | (k,x) :: r,hp,id,o,h=>by
  rcases Ziq r (ins hp k x) id o h with h1 | ⟨h1,h2⟩
  ·exact .inl (List.mem_cons_of_mem _ h1)
  ·rw[Qy] at h2
   split at h2
   ·rename_i hk;subst hk;cases h2;exact .inl (List.mem_cons_self ..)
   ·rename_i hk
    refine .inr ⟨fun o' hm=>?_,h2⟩
    rcases List.mem_cons.1 hm with hm | hm
    ·cases hm;exact hk rfl
    ·exact h1 o' hm
theorem Zhc (g:Nat→Nat):∀ (ids:List Nat) (out:List Zo) (id:Nat) (o:Zo),(id,o)∈Zd5 g ids out→∃ (k:Nat) (o0:Zo),ids[k]?=some id∧out[k]?=some o0∧o=Zn0 g o0
 | [],out,id,o,h=>by simp[Zd5] at h
 | i :: ids,[],id,o,h=>by simp[Zd5] at h
 | i :: ids,o1 :: out,id,o,h=>by
  simp only[Zd5] at h
  rcases List.mem_cons.1 h with h | h
  ·cases h;exact⟨0,o1,by simp,by simp,rfl⟩
  ·obtain⟨k,o0,h1,h2,h3⟩:=Zhc g ids out id o h
   exact⟨k+1,o0,by simpa using h1,by simpa using h2,h3⟩
theorem ZoI (g:Nat→Nat):∀ (ids:List Nat) (out:List Zo) (id:Nat),ids.length≤out.length→id∈ids→∃ o,(id,o)∈Zd5 g ids out
 | [],out,id,_,h=>by simp at h
 | i :: ids,[],id,hl,h=>by simp at hl
 | i :: ids,o1 :: out,id,hl,h=>by
  simp only[Zd5]
  rcases List.mem_cons.1 h with h | h
  ·subst h;exact⟨_,List.mem_cons_self ..⟩
  ·obtain⟨o,ho⟩:=ZoI g ids out id (by simpa using hl) h
   exact⟨o,List.mem_cons_of_mem _ ho⟩
theorem ZoJ (g:Nat→Nat):∀ (out:List Zo) (k id:Nat) (o:Zo),(id,o)∈Zd6 g k out→∃ (j:Nat) (o0:Zo),out[j]?=some o0∧id=k+j∧o=Zn0 g o0
 | [],k,id,o,h=>by simp[Zd6] at h
 | o1 :: out,k,id,o,h=>by
  simp only[Zd6] at h
  rcases List.mem_cons.1 h with h | h
  ·cases h;exact⟨0,o1,by simp,rfl,rfl⟩
  ·obtain⟨j,o0,h1,h2,h3⟩:=ZoJ g out (k+1) id o h
   exact⟨j+1,o0,by simpa using h1,by omega,h3⟩
theorem ZoK (g:Nat→Nat):∀ (out:List Zo) (k j:Nat),j<out.length→∃ o,(k+j,o)∈Zd6 g k out
 | [],k,j,h=>by simp at h
 | o1 :: out,k,0,h=>⟨_,by simp only[Zd6];exact List.mem_cons_self ..⟩
 | o1 :: out,k,j+1,h=>by
  obtain⟨o,ho⟩:=ZoK g out (k+1) j (by simpa using h)
  refine⟨o,?_⟩
  simp only[Zd6]
  have:k+(j+1)=k+1+j:=by omega
  rw[this]
  exact List.mem_cons_of_mem _ ho
theorem ZCD (x:AV):Zgl (fun k=>k) x=x:=by cases x<;>rfl
theorem Zor (x:AV):Zgm (fun k=>k) x=x:=by
 cases x<;>first | rfl | (simp only[Zgm];congr 1;rw[List.map_congr_left (g:=id) (fun a _=>ZCD a),List.map_id])
theorem Zuf (xs:List AV):xs.map (Zgm fun k=>k)=xs:=by
 rw[List.map_congr_left (g:=id) (fun a _=>Zor a),List.map_id]
theorem ren_id (x:AV):ren (fun k=>k) x=x:=by
 cases x with
 | tup vs=>simp only[ren];congr 1;rw[List.map_congr_left (g:=id) (fun a _=>Zor a),List.map_id]
 | d x=>rfl
 | nil=>rfl
 | nilp=>rfl
 | nili=>rfl
 | ptr a b=>rfl
 | prow a b c d=>rfl
 | pim c=>rfl
 | own a=>rfl
 | ownv a b c=>rfl
 | sub a b=>rfl
 | bnil a b=>rfl
 | bbuf a b=>rfl
 | agg cs=>exact Zor (.agg cs)
 | clo f cs=>exact Zor (.clo f cs)
 | junk=>rfl
theorem ZbE (x:AV):Qr [] x=x:=by cases x<;>simp[Qr]
theorem Zgo (x:AV):Z6 [] x=x:=by
 cases x<;>first | (simp only[Z6];congr 1;rw[List.map_congr_left (g:=id) (fun a _=>ZbE a),List.map_id]) | simp[Z6,Qr]
theorem ZAq (x:AV):kill [] x=x:=by
 cases x with
 | tup vs=>simp only[kill];congr 1;rw[List.map_congr_left (g:=id) (fun a _=>Zgo a),List.map_id]
 | d x=>rfl
 | nil=>rfl
 | nilp=>rfl
 | nili=>rfl
 | ptr a b=>exact ZbE (.ptr a b)
 | prow a b c d=>exact ZbE (.prow a b c d)
 | pim c=>rfl
 | own a=>exact ZbE (.own a)
 | ownv a b c=>exact ZbE (.ownv a b c)
 | sub a b=>exact ZbE (.sub a b)
 | bnil a b=>exact ZbE (.bnil a b)
 | bbuf a b=>rfl
 | agg cs=>exact Zgo (.agg cs)
 | clo f cs=>exact Zgo (.clo f cs)
 | junk=>rfl
theorem ZyM (o:Zo):YN [] o=o:=by
 cases o with
 | box cs=>simp only[YN];congr 1;rw[List.map_congr_left (g:=id) (fun a _=>Zgo a),List.map_id]
 | row s x e f=>rfl
 | deep s n x l=>cases l<;>simp[YN,Zin]
theorem Xj (gone:List Nat) (sl:Sl) (t:Nat):gs (XP gone sl) t=kill gone (gs sl t):=by
 unfold XP
 split
 ·rw[ZAq]
 ·simp only[gs,Zei]
  cases lkp sl t<;>rfl
theorem WD (gone:List Nat) (hp:Hp) (id:Nat):lkp (Wg gone hp) id=(lkp hp id).map (YN gone):=by
 unfold Wg
 split
 ·cases h:lkp hp id with
  | none=>rfl
  | some o=>simp[ZyM]
 ·exact Zei _ _ _
section
variable {P:Program} {nt:Nat} {U:Nat→Prop} {F A I:Nat→Prop} {Γ:Gh} {sl:Sl} {hp:Hp} {a:Act} {w:World}
theorem Zks {I2:Nat→Prop} {x:AV} {v:Value} (hc:Zd4 x=true) (h:Wk Γ w I x v):Wk Γ w I2 x v:=by
 cases x with
 | d x=>exact⟨h.1,ZpN hc h.2⟩
 | pim cs=>cases hc
 | agg cs=>exact h
 | tup cs=>exact h
 | clo f cs=>exact h
 | _=>exact h
theorem Ze9 {I2:Nat→Prop}:∀ {xs:List AV} {vs:List Value},xs.all Zd4=true→Zz (Wk Γ w I) xs vs→Zz (Wk Γ w I2) xs vs
 | [],[],_,_=>trivial
 | [],_ :: _,_,h=>h.elim
 | _ :: _,[],_,h=>h.elim
 | x :: xs,v :: vs,hc,h=>by
  simp only[List.all_cons,Bool.and_eq_true] at hc
  exact⟨Zks hc.1 h.1,Ze9 hc.2 h.2⟩
theorem ZoL {I2:Nat→Prop} {x:AV} {v:Value} (hc:ZfB x=true) (h:Za2 Γ w I x v):Za2 Γ w I2 x v:=by
 by_cases hs:x.small=true
 ·rw[(Jc hs v).2.1] at h ⊢
  refine Zks ?_ h
  cases x<;>first | exact hc | cases hs
 ·cases x with
  | agg cs=>obtain⟨us,h1,h2⟩:=h;exact⟨us,h1,Ze9 hc h2⟩
  | clo f cs=>obtain⟨us,h1,h2⟩:=h;exact⟨us,h1,Ze9 hc h2⟩
  | tup cs=>exact h.elim
  | d x=>exact Zpy.2 (Zsj hc (Zpy.1 h))
  | _=>exact absurd rfl hs
theorem Zv6 {I2:Nat→Prop} {x:AV} {v:Value} (hc:ZfB x=true) (h:YA Γ w I x v):YA Γ w I2 x v:=by
 by_cases hs:x.small=true
 ·rw[(Jc hs v).2.2] at h ⊢
  refine Zks ?_ h
  cases x<;>first | exact hc | cases hs
 ·cases x with
  | agg cs=>exact h.elim
  | clo f cs=>obtain⟨us,h1,h2⟩:=h;exact⟨us,h1,Ze9 hc h2⟩
  | tup cs=>exact h.elim
  | d x=>exact⟨h.1,ZpN hc h.2⟩
  | _=>exact absurd rfl hs
theorem Znj {I2:Nat→Prop}:∀ {xs:List AV} {vs:List Value},xs.all ZfB=true→Zz (YA Γ w I) xs vs→Zz (YA Γ w I2) xs vs
 | [],[],_,_=>trivial
 | [],_ :: _,_,h=>h.elim
 | _ :: _,[],_,h=>h.elim
 | x :: xs,v :: vs,hc,h=>by
  simp only[List.all_cons,Bool.and_eq_true] at hc
  exact⟨Zv6 hc.1 h.1,Znj hc.2 h.2⟩
theorem Znk {I2:Nat→Prop}:∀ {xs:List AV} {vs:List Value},xs.all ZfB=true→Zz (Za2 Γ w I) xs vs→Zz (Za2 Γ w I2) xs vs
 | [],[],_,_=>trivial
 | [],_ :: _,_,h=>h.elim
 | _ :: _,[],_,h=>h.elim
 | x :: xs,v :: vs,hc,h=>by
  simp only[List.all_cons,Bool.and_eq_true] at hc
  exact⟨ZoL hc.1 h.1,Znk hc.2 h.2⟩
theorem ZyN {I2:Nat→Prop} {x:AV} {v:Value} (hc:Zr5 x=true) (h:Rep Γ w I x v):Rep Γ w I2 x v:=by
 by_cases ht:∃ vs,x=.tup vs
 ·obtain⟨vs,rfl⟩:=ht
  obtain⟨us,h1,h2⟩:=h
  exact⟨us,h1,Znk hc h2⟩
 ·have e:∀ I,Rep Γ w I x v=Za2 Γ w I x v:=fun I=>by cases x<;>first | rfl | exact absurd ⟨_,rfl⟩ ht
  rw[e] at h ⊢
  refine ZoL ?_ h
  cases x<;>first | exact hc | exact absurd ⟨_,rfl⟩ ht
theorem Sim.blk_F (h:Sim nt F A I Γ U sl hp a w) {id:Nat} {o:Zo} (hl:lkp hp id=some o) {b:Nat} (hb:Blk Γ w id o b):F b:=Zkf (h.objs id o hl) hb
def ZyO (Γ:Gh) (w:World) (hp:Hp) (ids:List Nat) (n:Nat) (b:Nat):Prop:=n≤b∨∃ id∈ids,∃ o,lkp hp id=some o∧Blk Γ w id o b
def calA (Γ:Gh) (w:World) (hp:Hp) (ids:List Nat) (n:Nat) (I A:Nat→Prop) (b:Nat):Prop:=ZyO Γ w hp ids n b∨(I b∧A b)
def Zgp (Γ Γ' : Gh) (ids:List Nat) (base:Nat):Gh:=fun id=>if id∈ids then Γ' (UA ids id) else if base≤id∧id<base+64 then Γ' (ids.length+(id-base)) else Γ id
theorem ZyP (h:Sim nt F A I Γ U sl hp a w) {base:Nat} (hb:Yd U base) {ids lent:List Nat} (hnd:ids.Nodup) (hpres:∀ id∈ids,∃ o,lkp hp id=some o) (hlent:¬lent.any ids.contains=true)
  {r:AV} {out:List Zo} {I' : Nat→Prop} {Γ' : Gh} {v:Value} {w' : World}
  (hback:ZyL (ZyO Γ w hp ids w.heap.size) (calA Γ w hp ids w.heap.size I A) (ZiP Γ w hp I lent) (Zhb ids Γ) w out r I' Γ' v w')
  {ce:Zc} (hce:Za0 hp base ids lent r out=some ce) (hok:Xl base (base+64) ce.eff.adds=true) {dst:Option Nat} (hd:XI nt dst=true) :
  JX nt F A I Γ w (Za3 U base) (ce.on dst sl hp).1 (ce.on dst sl hp).2 (a.put dst v) w':=by
 unfold Za0 at hce
 split at hce
 ·cases hce
 rename_i hlen
 have hlen:ids.length≤out.length:=by omega
 split at hce
 ·cases hce
 rename_i hnd'
 cases hce
 generalize hcl:(Zr5 r&&out.all Zkz)=cl at *
 dsimp only at hok
 have hidlt:∀ id∈ids,¬(base≤id∧id<base+64):=fun id hid hh=>by
  obtain⟨o,ho⟩:=hpres id hid
  exact hb id hh.1 hh.2 (h.id_in ho)
 have hle:(out.drop ids.length).length≤64:=by
  rcases Nat.lt_or_ge 64 (out.drop ids.length).length with hgt | hle
  ·obtain⟨o,ho⟩:=ZoK (UJ ids base) (out.drop ids.length) base 64 hgt
   have:=(Jf hok _ _ ho).2
   omega
  ·exact hle
 have hle' : out.length≤ids.length+64:=by simp at hle;omega
 have hcF:∀ b,ZyO Γ w hp ids w.heap.size b→F b:=by
  rintro b (hb | ⟨id,hid,o,ho,hbb⟩)
  ·exact h.fresh b hb
  ·exact h.blk_F ho hbb
 have hcA:∀ b,calA Γ w hp ids w.heap.size I A b→A b:=by
  rintro b (hb | hb)
  ·exact h.own b (hcF b hb)
  ·exact hb.2
 have hnotF:∀ b,ZiP Γ w hp I lent b→¬I b→¬ZyO Γ w hp ids w.heap.size b:=by
  rintro b hfr hni (hb | ⟨id,hid,o,ho,hbb⟩)
  ·rcases hfr with hfr | ⟨id',hid',o',hl',hs',hb'⟩
   ·exact hni hfr
   ·have:=h.blk_lt hl' hb';omega
  ·rcases hfr with hfr | ⟨id',hid',o',hl',hs',hb'⟩
   ·exact hni hfr
   ·have:=h.inj id id' o _ b ho hl' hbb hb'
    subst this
    exact hlent (List.any_eq_true.2 ⟨id,hid',by simpa using hid⟩)
 let I2:Nat→Prop:=fun b=>I' b∧(cl=true→ZiP Γ w hp I lent b→I b)
 let Γ2:Gh:=Zgp Γ Γ' ids base
 have hI2:∀ b,I b→I2 b:=fun b hb=>⟨hback.keeps.sub b (.inl hb),fun _ _=>hb⟩
 have hkeep:Z3 I I2 w w':=⟨hI2,fun b hb=>hback.keeps.blk b (.inl hb)⟩
 have hAc:∀ b,I' b→calA Γ w hp ids w.heap.size I A b→I2 b∧A b:=by
  intro b h1 h2
  refine⟨⟨h1,fun _ hfr=>?_⟩,hcA b h2⟩
  rcases h2 with h2 | h2
  ·exact Classical.byContradiction fun hni=>hnotF b hfr hni h2
  ·exact h2.1
 have hG2back:∀ k,k<out.length→Γ2 (UJ ids base k)=Γ' k:=by
  intro k hkl
  by_cases hk:k<ids.length
  ·have hg:ids[k]?=some ids[k]:=List.getElem?_eq_getElem hk
   have hb:UJ ids base k=ids[k]:=by simp[UJ,hg,ZkA]
   show Zgp Γ Γ' ids base _=_
   rw[hb]
   simp only[Zgp]
   rw[if_pos (List.getElem_mem hk),Zjs hnd hg]
  ·have hg:ids[k]?=none:=List.getElem?_eq_none (by omega)
   have hb:UJ ids base k=base+(k-ids.length):=by simp[UJ,hg,ZkA]
   show Zgp Γ Γ' ids base _=_
   rw[hb]
   simp only[Zgp]
   rw[if_neg (fun hm=>hidlt _ hm (by omega)),if_pos (by omega)]
   congr 1
   omega
 have hren:∀ l,Zcj Γ' Γ2 (UJ ids base) l:=fun l id _ r hr=>by
  rw[hG2back id ?_]
  ·exact hr
  ·rcases Nat.lt_or_ge id out.length with h1 | h1
   ·exact h1
   ·rw[hback.names id h1] at hr;cases hr
 have hboxes:∀ id b,Γ id=some (.box b)→Γ2 id=some (.box b):=by
  intro id b hg
  show Zgp Γ Γ' ids base id=_
  simp only[Zgp]
  split
  ·rename_i hm
   refine hback.boxes _ b ?_
   rw[UG (Zld hm).2];exact hg
  ·split
   ·rename_i hge;rw[h.names id (hb id hge.1 hge.2)] at hg;cases hg
   ·exact hg
 have hstay:∀ id,id∉(ids.filter fun i=>We (lkp hp i))→∀ r,Γ id=some r→Γ2 id=some r:=by
  intro id hng r hr
  by_cases hm:id∈ids
  ·obtain⟨o,ho⟩:=hpres id hm
   cases o with
   | box cs=>
    obtain⟨b,cur,e,h1,_⟩:=h.objs id _ ho
    rw[h1] at hr;cases hr
    exact hboxes id _ h1
   | row sz xs ex fz=>exact absurd (by simp[hm,ho,We]) hng
   | deep sz ns xs lk=>exact absurd (by simp[hm,ho,We]) hng
  ·show Zgp Γ Γ' ids base id=_
   simp only[Zgp]
   rw[if_neg hm]
   split
   ·rename_i hge;rw[h.names id (hb id hge.1 hge.2)] at hr;cases hr
   ·exact hr
 have hothers:∀ id o,id∉ids→lkp hp id=some o→Γ2 id=Γ id:=by
  intro id o hm hl
  show Zgp Γ Γ' ids base id=_
  simp only[Zgp]
  rw[if_neg hm,if_neg (fun hh=>hb id hh.1 hh.2 (h.id_in hl))]
 have hret:∀ (k:Nat) (o:Zo),out[k]?=some o→W1 Γ2 w' I2 F A (UJ ids base k) (Zn0 (UJ ids base) o):=by
  intro k o ho
  have hkl:k<out.length:=(List.getElem?_eq_some_iff.1 ho).1
  have h1:=hback.objs k o (by rw[Wi];simpa using ho)
  cases o with
  | deep sz ns xs lk=>
   obtain⟨ad,n,c,h2,h3,_⟩:=h1
   exact⟨ad,n,c,by rw[hG2back k hkl];exact h2,h3.give (fun b _ hb=>⟨hcF b hb,fun hi=>hi.1⟩) (fun g p b _ _ _ hb=>⟨hcF b hb,fun hi=>hi.1⟩),trivial⟩
  | box cs=>
   obtain⟨b,cur,e,h2,h3,h4,h5,h6,hbf⟩:=h1
   refine⟨b,cur,e,by rw[hG2back k hkl];exact h2,h3,fun hi=>h4 hi.1,hcF b h5,?_,(hbf.mono fun x te l u v g hc hv hg=>⟨rfl,fun hi=>hi.1,fun hF=>hcF g hF⟩).map (ZdP _)⟩
   have h7:Zz (YA Γ' w' I2) cs cur.toList:=by
    cases hq:cl with
    | false=>exact h6.mono fun _ _ h=>h.mono (XA.refl _) ⟨fun b hb=>⟨hb,fun hcl'=>by rw[hq] at hcl';cases hcl'⟩,fun _ _=>rfl⟩
    | true=>
     rw[hq] at hcl
     simp only[Bool.and_eq_true] at hcl
     exact Znj (List.all_eq_true.1 hcl.2 _ (List.mem_of_getElem? ho)) h6
   exact Zgn (hren _) (Z3.refl I2 w') h7
  | row sz xs ex fz=>
   obtain⟨ad,n,c,h2,h3,h4⟩:=h1
   refine⟨ad,n,c,by rw[hG2back k hkl];exact h2,h3,?_⟩
   rcases h4 with h4 | ⟨g,cur,e,rfl,hc,hw,h5,h6,h7,h8,h9,h10,h11⟩
   ·exact .inl h4
   ·have hcl2:cl=true→ex=true∧fz=false:=by
     intro hq
     rw[hq] at hcl
     simp only[Bool.and_eq_true] at hcl
     have:=List.all_eq_true.1 hcl.2 _ (List.mem_of_getElem? ho)
     simpa [Zkz] using this
    refine .inr ⟨g,cur,e,rfl,hc,hw,h5,h6,h7,h8,?_,hcF g h10,?_⟩
    ·cases fz
     ·simp at h9 ⊢;exact fun hi=>h9 hi.1
     ·simp at h9 ⊢
      exact⟨h9,fun hq=>by have:=(hcl2 hq).2;cases this⟩
    ·cases ex
     ·have:cl=false:=by cases hq:cl with
       | false=>rfl
       | true=>have:=(hcl2 hq).1;cases this
      exact h11.mono' ⟨fun b hb=>⟨hb,fun hcl'=>by rw[this] at hcl';cases hcl'⟩,fun _ _=>rfl⟩ rfl
     ·simp only[if_true] at h11 ⊢
      exact h11.mono' ⟨fun b hb=>hAc b hb.1 hb.2,fun _ _=>rfl⟩ rfl
 have mem:∀ id o,lkp (Zg (Zg (QH (Qu (if cl then [] else lent) (Wg (ids.filter fun i=>We (lkp hp i)) hp)) []) (Zd5 (UJ ids base) ids out)) (Zd6 (UJ ids base) base (out.drop ids.length))) id=some o →
   (∃ (k:Nat) (o0:Zo),out[k]?=some o0∧id=UJ ids base k∧o=Zn0 (UJ ids base) o0) ∨
   (id∉ids∧∃ o0,lkp hp id=some o0∧o=(if (if cl then [] else lent).contains id then WK (YN (ids.filter fun i=>We (lkp hp i)) o0) else YN (ids.filter fun i=>We (lkp hp i)) o0)):=by
  intro id o hl
  rcases ZbO _ _ _ _ hl with hm | hm
  ·obtain⟨j,o0,h1,h2,h3⟩:=ZoJ _ _ _ _ _ hm
   rw[List.getElem?_drop] at h1
   refine .inl ⟨ids.length+j,o0,h1,?_,h3⟩
   have hg:ids[ids.length+j]?=none:=List.getElem?_eq_none (by omega)
   simp only[UJ,hg,ZkA];omega
  ·rcases Ziq _ _ _ _ hm with hm | ⟨hne,hm⟩
   ·obtain⟨k,o0,h1,h2,h3⟩:=Zhc _ _ _ _ _ hm
    exact .inl ⟨k,o0,h2,by simp[UJ,h1,ZkA],h3⟩
   ·simp only[QH] at hm
    rw[Qm,WD] at hm
    have hni:id∉ids:=fun hi=>by obtain⟨o',ho'⟩:=ZoI (UJ ids base) ids out id hlen hi;exact hne o' ho'
    cases hl0:lkp hp id with
    | none=>rw[hl0] at hm;cases hm
    | some o0=>
     rw[hl0] at hm
     simp only[Option.map_some,Option.some.injEq] at hm
     exact .inr ⟨hni,o0,rfl,hm.symm⟩
 have hotherBlk:∀ id o b,id∉ids→lkp hp id=some o→Blk Γ w id o b→¬ZyO Γ w hp ids w.heap.size b:=by
  rintro id o b hni hl hbb (hge | ⟨id',hid',o',ho',hb'⟩)
  ·have:=h.blk_lt hl hbb;omega
  ·have:=h.inj id id' o o' b hl ho' hbb hb'
   exact hni (this ▸ hid')
 refine⟨I2,Γ2,hboxes,hkeep,?_,?_,?_⟩
 ·intro b hb
  rcases hback.sub b hb.1 with h1 | h1
  ·exact h.frozeL_F h1
  ·exact .inr (hcF b h1)
 ·exact⟨hback.fr.os,hback.fr.tape,hback.fr.output,hback.fr.size,fun k hk hnf=>hback.fr.block k hk fun hc=>hnf (hcF k hc)⟩
 ·refine { nt:=by rw[Zu5];exact h.nt,dfr:=by rw[ZpK];exact h.dfr,slots:=?_,objs:=?_,inj:=?_,bound:=fun b hb=>hback.bound b hb.1,fresh:=fun b hb=>h.fresh b (by have:=hback.fr.size;omega),own:=h.own,names:=?_,glob:=h.glob.mono hkeep }
  ·intro t
   show Rep Γ2 w' I2 (gs (Zw (XP (ids.filter fun i=>We (lkp hp i)) sl) dst (ren (UJ ids base) r)) t) _
   rw[QU,Zyb h.nt hd]
   split
   ·have h1:Rep Γ' w' I2 r v:=by
     cases hq:cl with
     | false=>exact hback.res.mono (XA.refl _) ⟨fun b hb=>⟨hb,fun hcl'=>by rw[hq] at hcl';cases hcl'⟩,fun _ _=>rfl⟩
     | true=>
      rw[hq] at hcl
      simp only[Bool.and_eq_true] at hcl
      exact ZyN hcl.1 hback.res
    exact Zoq (hren _) (Z3.refl I2 w') h1
   ·rw[Xj]
    have h1:=Zua (bad:=ids.filter fun i=>We (lkp hp i)) (h.slots t)
    have h2:=Zoq (g:=fun k=>k) (fun id hid r hr=>hstay id (Zmr _ _ id hid).2 r hr) hkeep h1
    rwa [ren_id] at h2
  ·intro id o hl
   rcases mem id o hl with ⟨k,o0,h1,rfl,rfl⟩ | ⟨hni,o0,hl0,rfl⟩
   ·exact hret k o0 h1
   ·have hblk:∀ b,Blk Γ w id o0 b→w'.heap[b]?=w.heap[b]?:=fun b hb=>hback.fr.block b (h.blk_lt hl0 hb) (hotherBlk id o0 b hni hl0 hb)
    have hfrz:(if cl=true then [] else lent).contains id=true→cl=false∧id∈lent:=by
     intro hq;cases hcq:cl<;>rw[hcq] at hq<;>simp at hq
     exact⟨rfl,hq⟩
    have hnI:∀ b,Blk Γ w id o0 b→((if cl=true then [] else lent).contains id=false∨o0.soft=false)→I2 b→I b:=by
     intro b hbb hor hi
     rcases hback.sub b hi.1 with h1 | h1
     ·rcases h1 with h1 | ⟨id',hid',o',hl',hs',hb'⟩
      ·exact h1
      ·have he:=h.inj id id' _ _ b hl0 hl' hbb hb'
       subst he
       rw[hl0] at hl';cases hl'
       cases hq:cl with
       | true=>exact hi.2 hq (.inr ⟨id,hid',_,hl0,hs',hbb⟩)
       | false=>
        rcases hor with hor | hor
        ·rw[hq] at hor;simp at hor;exact absurd hid' hor
        ·rw[hs'] at hor;cases hor
     ·exact absurd h1 (hotherBlk id o0 b hni hl0 hbb)
    have ho:=h.objs id o0 hl0
    have hG:=hothers id o0 hni hl0
    cases o0 with
    | deep sz ns xs lk=>
     cases hq:(if cl=true then [] else lent).contains id with
     | true=>
      obtain⟨hcq,hil⟩:=hfrz hq
      exfalso
      rw[hcq] at hnd'
      simp only[Bool.not_false,Bool.true_and,Bool.not_eq_true] at hnd'
      have:lent.any (fun i=>ZcN (lkp hp i))=true:=List.any_eq_true.2 ⟨id,hil,by rw[hl0];rfl⟩
      rw[this] at hnd';cases hnd'
     | false=>
      simp only[Bool.false_eq_true,if_false]
      obtain⟨ad,n,c,h2,h3,h4⟩:=ho
      refine⟨ad,n,c,by rw[hG,h2],h3.mono hkeep (fun b hb=>have:=Or.inl (h2 ▸ hb);⟨hblk b this,hnI b this (.inl hq)⟩) (fun g p b hg hp hb=>have:=Or.inr (Or.inl ⟨g,p,h2 ▸ hg,hp,hb⟩);⟨hblk b this,hnI b this (.inl hq)⟩),?_⟩
      cases lk with
      | none=>exact trivial
      | some q=>
       simp only[Zin]
       split
       ·exact trivial
       ·rename_i hnb
        obtain⟨nm,i,j⟩:=q
        obtain⟨g',a',n',c',sz',h5,h6,h7,h8,h9⟩:=h4
        refine⟨g',a',n',c',sz',h5,hstay nm (by simpa using hnb) _ h6,h7,h8,?_⟩
        subst h5
        have hbg:ZG (Γ id)=some g':=by
         rw[h2]
         rcases h3.2 with h10 | ⟨_,_,_,_,h10,_⟩
         ·have:=h3.1;omega
         ·simp[ZG,Nat.ne_of_gt h10]
        rw[World.cell?_of_block (w:=w) (a:=⟨g',i*sz+j,none⟩) (hblk g' (.inl hbg))]
        exact h9
    | box cs=>
     have hz:(if (if cl=true then [] else lent).contains id=true then WK (YN (ids.filter fun i=>We (lkp hp i)) (.box cs)) else YN (ids.filter fun i=>We (lkp hp i)) (.box cs))=.box (cs.map (Z6 (ids.filter fun i=>We (lkp hp i)))):=by
      cases (if cl=true then [] else lent).contains id<;>rfl
     rw[hz]
     obtain⟨b,cur,e,h2,h3,h4,h5,h6,hbf⟩:=ho
     have hbb:Blk Γ w id (.box cs) b:=.inl (by rw[h2];rfl)
     refine⟨b,cur,e,by rw[hG,h2],by rw[hblk b hbb,h3],fun hi=>h4 (hnI b hbb (.inr rfl) hi),h5,?_,(hbf.mono fun x te l u v g hc hv hg=>have hB:=Or.inr (Or.inr (Zw5 h2 h3 hc hv hg));⟨hblk g hB,hnI g hB (.inr rfl),fun h=>h⟩).map (Zat _)⟩
     have h7:=h6.map_left (S:=YA Γ w I) (f:=Z6 (ids.filter fun i=>We (lkp hp i))) fun _ _ h=>Zmp h
     have h8:=Zgn (g:=fun k=>k) (Γ':=Γ2) (fun id' hid r hr=>hstay id' (by
      obtain⟨y,hy,hid⟩:=List.mem_flatMap.1 hid
      obtain⟨x,hx,rfl⟩:=List.mem_map.1 hy
      exact(Zha _ x id' hid).2) r hr) hkeep h7
     rwa [Zuf] at h8
    | row sz xs ex fz=>
     obtain⟨ad,n,c,h2,h3,h4⟩:=ho
     have hz:∃ fz',(if (if cl=true then [] else lent).contains id=true then WK (YN (ids.filter fun i=>We (lkp hp i)) (.row sz xs ex fz)) else YN (ids.filter fun i=>We (lkp hp i)) (.row sz xs ex fz))=.row sz xs ex fz' ∧
       (fz'=false→fz=false∧(if cl=true then [] else lent).contains id=false)∧(fz'=true→fz=true∨(fz=false∧cl=false∧id∈lent)):=by
      cases hq:(if cl=true then [] else lent).contains id with
      | true=>
       refine⟨true,rfl,(fun h=>by cases h),fun _=>?_⟩
       cases fz
       ·exact .inr ⟨rfl,hfrz hq⟩
       ·exact .inl rfl
      | false=>exact⟨fz,rfl,fun hf=>⟨hf,rfl⟩,fun hf=>.inl hf⟩
     obtain⟨fz',hz,hz1,hz2⟩:=hz
     rw[hz]
     refine⟨ad,n,c,by rw[hG,h2],h3,?_⟩
     rcases h4 with h4 | ⟨g,cur,e,rfl,hc,hw,h5,h6,h7,h8,h9,h10,h11⟩
     ·exact .inl h4
     ·have hbb:Blk Γ w id (.row sz xs ex fz) g:=.inl (by rw[h2];simp[ZG,Nat.ne_of_gt hc])
      refine .inr ⟨g,cur,e,rfl,hc,by rw[hblk g hbb,hw],h5,h6,h7,h8,?_,h10,?_⟩
      ·cases fz' with
       | false=>
        obtain⟨hf,hq⟩:=hz1 rfl
        rw[hf] at h9
        simp at h9 ⊢
        exact fun hi=>h9 (hnI g hbb (.inl hq) hi)
       | true=>
        simp
        rcases hz2 rfl with hf | ⟨hf,hq,hil⟩
        ·rw[hf] at h9
         simp at h9
         exact hI2 g h9
        ·subst hf
         exact⟨hback.keeps.sub g (.inr ⟨id,hil,_,hl0,rfl,hbb⟩),fun hq'=>by rw[hq] at hq';cases hq'⟩
      ·cases ex
       ·exact h11.mono' hkeep (hblk g hbb)
       ·simp only[if_true] at h11 ⊢
        exact h11.mono' ⟨fun b hb=>⟨hI2 b hb.1,hb.2⟩,fun b hb=>hkeep.blk b hb.1⟩ (hblk g hbb)
  ·have bk:∀ (k:Nat) (o0:Zo) (b:Nat),out[k]?=some o0→Blk Γ2 w' (UJ ids base k) (Zn0 (UJ ids base) o0) b→Blk Γ' w' k o0 b:=by
    intro k o0 b h1 hb
    have e:=hG2back k (List.getElem?_eq_some_iff.1 h1).1
    rcases hb with hb | hb | hb
    ·exact .inl (e ▸ hb)
    ·cases o0 with
     | box cs=>exact False.elim hb
     | row sz xs ex fz=>exact False.elim hb
     | deep sz ns xs lk=>exact .inr (.inl (by obtain⟨g,p,h2,h3⟩:=hb;exact⟨g,p,e ▸ h2,h3⟩))
    ·cases o0 with
     | box cs=>exact .inr (.inr ((Buf.unmap (ZdP _) hb).ren e.symm))
     | row sz xs ex fz=>exact False.elim hb
     | deep sz ns xs lk=>exact False.elim hb
   have bo:∀ (id:Nat) (o0:Zo) (b:Nat),id∉ids→lkp hp id=some o0→Blk Γ2 w' id (if (if cl then [] else lent).contains id then WK (YN (ids.filter fun i=>We (lkp hp i)) o0) else YN (ids.filter fun i=>We (lkp hp i)) o0) b→Blk Γ w id o0 b:=by
    intro id o0 b hni hl hb
    have hb:=ZiQ hb
    have h1:Blk Γ2 w' id o0 b:=by
     rcases hb with hb | hb | hb
     ·exact .inl hb
     ·cases o0 with
      | box cs=>exact False.elim hb
      | row sz xs ex fz=>exact False.elim hb
      | deep sz ns xs lk=>exact .inr (.inl hb)
     ·cases o0 with
      | box cs=>exact .inr (.inr (Buf.unmap (Zat _) hb))
      | row sz xs ex fz=>exact False.elim hb
      | deep sz ns xs lk=>exact False.elim hb
    exact h1.back (hothers id o0 hni hl) fun g hg=>hback.fr.block g (h.blk_lt hl (.inl hg)) (hotherBlk id o0 g hni hl (.inl hg))
   intro i j o o' b hi hj hbi hbj
   rcases mem i o hi with ⟨k,o0,h1,rfl,rfl⟩ | ⟨hni,o0,hl0,rfl⟩<;>rcases mem j o' hj with ⟨k',o1,h2,rfl,rfl⟩ | ⟨hni',o1,hl1,rfl⟩
   ·have:=hback.inj k k' o0 o1 b (by rw[Wi];simpa using h1) (by rw[Wi];simpa using h2) (bk k o0 b h1 hbi) (bk k' o1 b h2 hbj)
    rw[this]
   ·exact absurd (Zkf (hback.objs k o0 (by rw[Wi];simpa using h1)) (bk k o0 b h1 hbi)) (hotherBlk j o1 b hni' hl1 (bo j o1 b hni' hl1 hbj))
   ·exact absurd (Zkf (hback.objs k' o1 (by rw[Wi];simpa using h2)) (bk k' o1 b h2 hbj)) (hotherBlk i o0 b hni hl0 (bo i o0 b hni hl0 hbi))
   ·exact h.inj i j o0 o1 b hl0 hl1 (bo i o0 b hni hl0 hbi) (bo j o1 b hni' hl1 hbj)
  ·intro id hid
   show Zgp Γ Γ' ids base id=none
   simp only[Zgp]
   rw[if_neg,if_neg]
   ·exact h.names id (fun hu=>hid (.inl hu))
   ·exact fun hh=>hid (.inr hh)
   ·intro hm
    obtain⟨o,ho⟩:=hpres id hm
    exact hid (.inl (h.id_in ho))
end
end Go.Abs
