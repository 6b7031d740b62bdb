/- The abstract semantics and the model: operations that make or turn something. Own text. -/
import Derived.Test.YtkdjbefmiiibpaaGreatDoorAbsPure
set_option linter.unusedVariables false
set_option linter.unusedSimpArgs false
namespace Go.Abs
open Go
theorem Qy {α:Type}:∀ (l:List (Nat×α)) (t:Nat) (v:α) (t' : Nat),lkp (ins l t v) t'=if t=t' then some v else lkp l t'
 | [],t,v,t'=>by simp[ins,lkp]
 | (k,x) :: r,t,v,t'=>by
  simp only[ins]
  split
  ·simp[lkp]
  ·split
   ·rename_i h;subst h;by_cases ht:k=t' <;> simp[lkp,ht]
   ·rename_i h
    simp only[lkp,Qy r t v t']
    by_cases hk:k=t'
    ·subst hk;simp[Ne.symm h]
    ·simp[hk]
theorem ZjI:∀ (l:Hp) (t t' : Nat),lkp (del l t) t'=if t=t' then none else lkp l t'
 | [],t,t'=>by simp[del,lkp]
 | (k,x) :: r,t,t'=>by
  simp only[del]
  split
  ·rename_i h;subst h;rw[ZjI r k t']
   by_cases ht:k=t' <;> simp[lkp,ht]
  ·rename_i h
   simp only[lkp,ZjI r t t']
   by_cases hk:k=t'
   ·subst hk;simp[Ne.symm h]
   ·simp[hk]
theorem ZbN:∀ (ds:List Nat) (l:Hp) (id:Nat) (o:Zo),lkp (QH l ds) id=some o→lkp l id=some o∧id∉ds
 | [],l,id,o,h=>⟨h,by simp⟩
 | d :: ds,l,id,o,h=>by
  obtain⟨h1,h2⟩:=ZbN ds (del l d) id o h
  rw[ZjI] at h1
  split at h1
  ·cases h1
  ·rename_i hd
   exact⟨h1,by simp only[List.mem_cons,not_or];exact⟨fun e=>hd e.symm,h2⟩⟩
theorem ZbO:∀ (l:Hp) (hp:Hp) (id:Nat) (o:Zo),lkp (Zg hp l) id=some o→(id,o)∈l∨lkp hp id=some o
 | [],hp,id,o,h=>.inr h
 | (k,x) :: r,hp,id,o,h=>by
  rcases ZbO r (ins hp k x) id o h with h1 | h1
  ·exact .inl (List.mem_cons_of_mem _ h1)
  ·rw[Qy] at h1
   split at h1
   ·rename_i hk;subst hk;cases h1;exact .inl (List.mem_cons_self ..)
   ·exact .inr h1
theorem ZpJ (ids:List Nat):∀ (l:Hp) (id:Nat),lkp (freeze ids l) id=(lkp l id).map fun o=>if ids.contains id then WK o else o
 | [],id=>by simp[freeze,lkp]
 | (k,x) :: r,id=>by
  simp only[freeze,lkp,ZpJ ids r id]
  by_cases hk:k=id
  ·subst hk;simp
  ·simp[hk]
theorem Qm (ids:List Nat) (l:Hp) (id:Nat):lkp (Qu ids l) id=(lkp l id).map fun o=>if ids.contains id then WK o else o:=by
 unfold Qu
 split
 ·simp
 ·exact ZpJ _ l id
theorem Zei {α β:Type} (f:α→β):∀ (l:List (Nat×α)) (t:Nat),lkp (ZjZ f l) t=(lkp l t).map f
 | [],t=>by simp[ZjZ,lkp]
 | (k,x) :: r,t=>by
  simp only[ZjZ,lkp,Zei f r t]
  by_cases hk:k=t<;>simp[hk]
theorem QU (sl:Sl) (dst:Option Nat) (v:AV) (t:Nat):gs (Zw sl dst v) t=if dst=some t then v else gs sl t:=by
 cases dst with
 | none=>simp[Zw]
 | some d=>
  simp only[Zw,gs,Qy,Option.some.injEq]
  by_cases h:d=t<;>simp[h,Zfu]
theorem Jf:∀ {l:Hp} {lo hi:Nat},Xl lo hi l=true→∀ k o,(k,o)∈l→lo≤k∧k<hi
 | [],_,_,_,k,o,h=>by simp at h
 | (k',o') :: r,lo,hi,h,k,o,hm=>by
  simp only[Xl,Bool.and_eq_true,decide_eq_true_eq] at h
  rcases List.mem_cons.1 hm with hm | hm
  ·cases hm;exact⟨h.1.1,h.1.2⟩
  ·have:=Jf h.2 k o hm;exact⟨by omega,this.2⟩
def JX (nt:Nat) (F A I:Nat→Prop) (Γ:Gh) (w:World) (U' : Nat→Prop) (sl' : Sl) (hp' : Hp) (a' : Act) (w' : World):Prop:=
 ∃ I' Γ',(∀ id b,Γ id=some (.box b)→Γ' id=some (.box b))∧Z3 I I' w w'∧(∀ b,I' b→I b∨F b)∧Fr F w w'∧Sim nt F A I' Γ' U' sl' hp' a' w'
theorem Z3.refl (I:Nat→Prop) (w:World):Z3 I I w w:=⟨fun _ h=>h,fun _ _=>rfl⟩
theorem Z3.trans {I I' I'' : Nat→Prop} {w w' w'' : World} (h:Z3 I I' w w') (k:Z3 I' I'' w' w''):Z3 I I'' w w'' :=
 ⟨fun b hb=>k.sub b (h.sub b hb),fun b hb=>(k.blk b (h.sub b hb)).trans (h.blk b hb)⟩
theorem XA.refl (Γ:Gh):XA Γ Γ:=fun _ _ h=>h
theorem Zu5 (a:Act) (dst:Option Tmp) (u:Value):(a.put dst u).tmps.size=a.tmps.size:=by
 cases dst<;>simp[Act.put]
theorem ZpK (a:Act) (dst:Option Tmp) (u:Value):(a.put dst u).defers=a.defers:=by
 cases dst<;>simp[Act.put]
theorem Zyb {a:Act} {nt:Nat} (hn:a.tmps.size=nt) {dst:Option Tmp} (hd:XI nt dst=true) (u:Value) (t:Nat):(a.put dst u).tmps.getD t undef=if dst=some t then u else a.tmps.getD t undef:=by
 cases dst with
 | none=>simp[Act.put]
 | some d=>
  simp only[XI,decide_eq_true_eq] at hd
  by_cases h:d=t
  ·subst h;simp[Act.put,hn,hd]
  ·simp[Act.put,h]
section
variable {P:Program} {nt:Nat} {U:Nat→Prop} {F A I:Nat→Prop} {Γ:Gh} {sl:Sl} {hp:Hp} {a:Act} {w:World}
theorem Sim.slOK (h:Sim nt F A I Γ U sl hp a w):Zdx Γ w I sl a:=h.slots
theorem Sim.hpOK (h:Sim nt F A I Γ U sl hp a w):ZbH Γ w I F A hp:=h.objs
theorem Sim.more (h:Sim nt F A I Γ U sl hp a w) {U' : Nat→Prop} (hn:∀ id,U id→U' id):Sim nt F A I Γ U' sl hp a w:=
 { h with names:=fun id hid=>h.names id fun hu=>hid (hn id hu) }
theorem Sim.next (h:Sim nt F A I Γ U sl hp a w) {I' : Nat→Prop} {Γ' : Gh} {w' : World} {hp' : Hp} {v:AV} {u:Value} {dst:Option Nat} {U' : Nat→Prop}
  (hk:XA Γ Γ') (hkeep:Z3 I I' w w') (hobj:ZbH Γ' w' I' F A hp')
  (hinj:∀ i j o o' b,lkp hp' i=some o→lkp hp' j=some o'→Blk Γ' w' i o b→Blk Γ' w' j o' b→i=j)
  (hbound:∀ b,I' b→b<w'.heap.size) (hsz:w.heap.size≤w'.heap.size) (hnames:∀ id,¬U' id→Γ' id=none) (hrep:Rep Γ' w' I' v u) (hdst:XI nt dst=true) :
  Sim nt F A I' Γ' U' (Zw sl dst v) hp' (a.put dst u) w' where
 nt:=by rw[Zu5];exact h.nt
 dfr:=by rw[ZpK];exact h.dfr
 slots:=fun t=>by
  rw[QU,Zyb h.nt hdst]
  split
  ·exact hrep
  ·exact(h.slots t).mono hk hkeep
 objs:=hobj
 inj:=hinj
 bound:=hbound
 fresh:=fun b hb=>h.fresh b (by omega)
 own:=h.own
 names:=hnames
 glob:=h.glob.mono hkeep
theorem Sim.pure (h:Sim nt F A I Γ U sl hp a w) {v:AV} {u:Value} {dst:Option Nat} {U' : Nat→Prop} (hn:∀ id,U id→U' id) (hrep:Rep Γ w I v u) (hdst:XI nt dst=true) :
  JX nt F A I Γ w U' (Zw sl dst v) hp (a.put dst u) w:=
 ⟨I,Γ,fun _ _ h=>h,Z3.refl I w,fun _ h=>.inl h,Fr.refl F w,h.next (XA.refl Γ) (Z3.refl I w) h.objs h.inj h.bound (Nat.le_refl _) (fun id hid=>h.names id fun hu=>hid (hn id hu)) hrep hdst⟩
theorem Zej {a:Option Addr} {n c sz b:Nat} (h:ZG (some (.row a n c sz))=some b):∃ ad,a=some ad∧ad.block=b∧c≠0:=by
 cases a with
 | none=>simp[ZG] at h
 | some ad=>
  simp only[ZG] at h
  split at h
  ·cases h
  ·cases h;exact⟨ad,rfl,rfl,by assumption⟩
theorem Zse {ns:Nat} {y:D} {v:Value} (h:UC w I F A ns y v) {b:Nat} (hb:VC v=some b) :
  ∃ ys a c,y=.sl ys∧v=.slice a ys.length c∧ZgI w I F A a ys.length c ns ys true false∧ZdT D.flat ys=true∧ZG (some (.row a ys.length c ns))=some b:=by
 cases y with
 | sl ys=>
  obtain⟨a,c,rfl,h2,h3⟩:=h
  refine⟨ys,a,c,rfl,rfl,h2,h3,?_⟩
  cases a with
  | none=>simp[VC] at hb
  | some ad=>simpa [VC,ZG] using hb
 | int k n=>obtain⟨_,h2⟩:=h;simp[Z2] at h2;subst h2;simp[VC] at hb
 | bool k=>obtain⟨_,h2⟩:=h;simp[Z2] at h2;subst h2;simp[VC] at hb
 | str k=>obtain⟨_,h2⟩:=h;simp[Z2] at h2;obtain⟨t,h2,_⟩:=h2;subst h2;simp[VC] at hb
 | agg cs=>exact absurd h.1 (by simp[D.plain])
theorem ZC8 {a:Option Addr} {n c sz b:Nat} {xs:List D} {ex:Bool} (h:ZgI w I F A a n c sz xs ex false) (hb:ZG (some (.row a n c sz))=some b):b<w.heap.size∧¬I b∧F b:=by
 obtain⟨ad,rfl,rfl,hc⟩:=Zej hb
 rcases h.2 with h3 | ⟨g,cur,e,hg,h4,hw,h6,h7,h8,h9,h10,h11,h12⟩
 ·exact absurd h3.2 hc
 ·cases hg
  exact⟨(Array.getElem?_eq_some_iff.1 hw).1,by simpa using h10,h11⟩
theorem ZA8 {id:Nat} {o:Zo} (ho:W1 Γ w I F A id o) {b:Nat} (hb:Y9 Γ w id o b) :
  ∃ sz ns xs lk i j x ys v a c g,o=.deep sz ns xs lk∧xs[i]?=some x∧x.cells[j]?=some (.sl ys)∧j<sz∧ZG (Γ id)=some g∧w.cell? ⟨g,i*sz+j,none⟩=some v∧v=.slice a ys.length c∧ZgI w I F A a ys.length c ns ys true false∧ZG (some (.row a ys.length c ns))=some b:=by
 cases o with
 | box cs=>exact hb.elim
 | row sz xs ex fz=>exact hb.elim
 | deep sz ns xs lk=>
  obtain⟨g,p,hg,hp,hn⟩:=hb
  obtain⟨ad,n,c,h1,hd,_⟩:=ho
  rw[h1] at hg
  obtain⟨ad',rfl,rfl,hc⟩:=Zej hg
  obtain⟨h2,h3⟩:=hd
  rcases h3 with h3 | ⟨g,cur,e,hg',hc0,hw,h4,h5,h6,hpos,h8,hFg,hel,hdis,hne⟩
  ·exact absurd h3.2 hc
  ·cases hg'
   have hi:p / sz<xs.length:=(Nat.div_lt_iff_lt_mul hpos).2 hp
   obtain⟨vs,v1,v2,v3⟩:=hel (p / sz) xs[p / sz] (List.getElem?_eq_getElem hi)
   have hj:p % sz<sz:=Nat.mod_lt _ hpos
   obtain⟨v,hv⟩:∃ v,vs[p % sz]?=some v:=⟨_,List.getElem?_eq_getElem (by omega)⟩
   have hcell:=v2 _ _ hv
   have e1:p / sz*sz+p % sz=p:=by rw[Nat.mul_comm];exact Nat.div_add_mod p sz
   rw[e1] at hcell
   unfold VN at hn
   rw[hcell] at hn
   obtain⟨y,hy,hny⟩:=v3.get' _ _ hv
   obtain⟨ys,a',c',rfl,rfl,h12,_,h13⟩:=Zse hny hn
   exact⟨sz,ns,xs,lk,p / sz,p % sz,_,ys,_,a',c',g,rfl,List.getElem?_eq_getElem hi,hy,hj,by rw[h1];simp[ZG,hc],by rw[e1];exact hcell,rfl,h12,h13⟩
theorem ZpL {id:Nat} {o:Zo} (ho:W1 Γ w I F A id o) {b:Nat} (hb:Y9 Γ w id o b):b<w.heap.size∧¬I b∧F b:=by
 obtain⟨sz,ns,xs,lk,i,j,x,ys,v,a,c,g,_,_,_,_,_,_,_,h1,h2⟩:=ZA8 ho hb
 exact ZC8 h1 h2
theorem ZFZ {id sz ns:Nat} {xs:List D} {lk:Option (Nat×Nat×Nat)} {n c:Nat} {a:Option Addr} (h1:Γ id=some (.row a n c sz)) {b:Nat} (h:Y9 Γ w id (.deep sz ns xs lk) b) :
  ∃ g p,a=some g∧c≠0∧p<xs.length*sz∧VN w g.block p=some b:=by
 obtain⟨g,p,hg,hp,hn⟩:=h
 rw[h1] at hg
 obtain⟨ad',rfl,rfl,hc⟩:=Zej hg
 exact⟨ad',p,rfl,hc,hp,hn⟩
theorem Y9.back {Γ' : Gh} {w' : World} {id:Nat} {o:Zo} {b:Nat} (h:Y9 Γ' w' id o b) (hg:Γ' id=Γ id) (hw:∀ g,ZG (Γ id)=some g→w'.heap[g]?=w.heap[g]?):Y9 Γ w id o b:=by
 cases o with
 | box cs=>exact h.elim
 | row sz xs ex fz=>exact h.elim
 | deep sz ns xs lk=>
  obtain⟨g,p,h1,h2,h3⟩:=h
  rw[hg] at h1
  refine⟨g,p,h1,h2,?_⟩
  unfold VN at h3 ⊢
  rwa [World.cell?_of_block (w:=w) (a:=⟨g,p,none⟩) (hw g h1)] at h3
theorem Buf.is {id:Nat} {o:Zo} {b:Nat} (h:Buf Γ w id o b):∃ x te l g,o=.box [x,.bbuf te l]∧ZG (Γ id)=some g∧VN w g 1=some b:=by
 unfold Buf at h
 split at h
 ·obtain⟨g,h1,h2⟩:=h;exact⟨_,_,_,g,rfl,h1,h2⟩
 ·exact h.elim
theorem Buf.back {Γ' : Gh} {w' : World} {id:Nat} {o:Zo} {b:Nat} (h:Buf Γ' w' id o b) (hg:Γ' id=Γ id) (hw:∀ g,ZG (Γ id)=some g→w'.heap[g]?=w.heap[g]?):Buf Γ w id o b:=by
 obtain⟨x,te,l,g,rfl,h1,h2⟩:=h.is
 rw[hg] at h1
 refine⟨g,h1,?_⟩
 unfold VN at h2 ⊢
 rwa [World.cell?_of_block (w:=w) (a:=⟨g,1,none⟩) (hw g h1)] at h2
theorem ZA9 {id:Nat} {o:Zo} (ho:W1 Γ w I F A id o) {b:Nat} (hb:Buf Γ w id o b):b<w.heap.size∧¬I b∧F b∧ZG (Γ id)≠some b:=by
 obtain⟨x,te,l,g,rfl,h1,h2⟩:=hb.is
 obtain⟨b',cur,e,g1,g2,g3,g4,g5,g6⟩:=ho
 rw[g1] at h1
 cases h1
 match hc:cur.toList,g5,g6 with
 | [u,v],g5,g6=>
  have hcell:w.cell? ⟨b',1,none⟩=some v:=by
   have:cur[1]?=some v:=by rw[← Array.getElem?_toList,hc];rfl
   simp[World.cell?,g2,this]
  rcases g6 with ⟨_,rfl⟩ | ⟨g,cap,cur',rfl,k1,k2,k3,k4,k5,k6,k7,k8,k9⟩
  ·unfold VN at h2
   rw[show ((b',e).1:Nat)=b' from rfl,hcell] at h2
   simp[VC] at h2
  have hv:w.cell? ⟨b',1,none⟩=some (.slice (some ⟨g,0,none⟩) l.length cap):=by
   have:cur[1]?=some (.slice (some ⟨g,0,none⟩) l.length cap):=by rw[← Array.getElem?_toList,hc];rfl
   simp[World.cell?,g2,this]
  unfold VN at h2
  rw[show ((b',e).1:Nat)=b' from rfl,hv] at h2
  simp only[VC,Nat.ne_of_gt (Nat.lt_of_lt_of_le k1 k3),if_false,Option.some.injEq] at h2
  subst h2
  refine⟨(Array.getElem?_eq_some_iff.1 k2).1,k7,k8,?_⟩
  rw[g1]
  intro e;cases e;exact k9 rfl
 | [],g5,_=>exact g5.elim
 | [_],g5,_=>exact g5.2.elim
 | _ :: _ :: _ :: _,g5,_=>exact g5.2.2.elim
theorem Blk.back {Γ' : Gh} {w' : World} {id:Nat} {o:Zo} {b:Nat} (h:Blk Γ' w' id o b) (hg:Γ' id=Γ id) (hw:∀ g,ZG (Γ id)=some g→w'.heap[g]?=w.heap[g]?):Blk Γ w id o b:=by
 rcases h with h | h | h
 ·exact .inl (hg ▸ h)
 ·exact .inr (.inl (h.back hg hw))
 ·exact .inr (.inr (h.back hg hw))
theorem Blk.nil {id:Nat} {o:Zo} {b:Nat} (h:Blk Γ w id o b) (h0:ZG (Γ id)=none):False:=by
 rcases h with h | h | h
 rotate_right
 ·obtain⟨x,te,l,g,rfl,h1,h2⟩:=h.is
  rw[h0] at h1;cases h1
 ·rw[h0] at h;cases h
 ·cases o with
  | box cs=>exact h
  | row sz xs ex fz=>exact h
  | deep sz ns xs lk=>obtain⟨g,p,h1,_⟩:=h;rw[h0] at h1;cases h1
theorem Blk.box {id:Nat} {cs:List AV} {b:Nat} (hn:YM cs=true) (h:Blk Γ w id (.box cs) b):ZG (Γ id)=some b:=by
 rcases h with h | h | h
 ·exact h
 ·exact h.elim
 ·obtain⟨x,te,l,g,h1,_⟩:=h.is
  cases h1
  cases x<;>cases hn
theorem Blk.row {id sz:Nat} {xs:List D} {ex fz:Bool} {b:Nat} (h:Blk Γ w id (.row sz xs ex fz) b):ZG (Γ id)=some b:=h.elim (fun h=>h) fun h=>h.elim False.elim False.elim
theorem ZgI.mono {a:Option Addr} {n c sz:Nat} {xs:List D} {ex fz:Bool} {I' : Nat→Prop} {w' : World} (h:ZgI w I F A a n c sz xs ex fz) (hkeep:Z3 I I' w w')
  (hblk:∀ b,ZG (some (.row a n c sz))=some b→w'.heap[b]?=w.heap[b]?∧(I' b→I b)):ZgI w' I' F A a n c sz xs ex fz:=by
 obtain⟨h2,h3⟩:=h
 refine⟨h2,?_⟩
 rcases h3 with h3 | ⟨g,cur,e,rfl,hc,hw,h4,h5,h6,h7,h8,hFg,h9⟩
 ·exact .inl h3
 ·obtain⟨h10,h11⟩:=hblk g (by simp[ZG,Nat.ne_of_gt hc])
  refine .inr ⟨g,cur,e,rfl,hc,by rw[h10,hw],h4,h5,h6,h7,?_,hFg,?_⟩
  ·cases fz
   ·simp at h8 ⊢;exact fun hi=>h8 (h11 hi)
   ·simp at h8 ⊢;exact hkeep.sub g h8
  ·cases ex
   ·exact h9.mono' hkeep h10
   ·simp only[if_true] at h9 ⊢
    exact h9.mono' ⟨fun b hb=>⟨hkeep.sub b hb.1,hb.2⟩,fun b hb=>hkeep.blk b hb.1⟩ h10
theorem UC.mono {I' : Nat→Prop} {w' : World} {ns:Nat} {y:D} {v:Value} (h:UC w I F A ns y v) (hkeep:Z3 I I' w w') (hblk:∀ b,VC v=some b→w'.heap[b]?=w.heap[b]?∧(I' b→I b)):UC w' I' F A ns y v:=by
 cases y with
 | sl ys=>
  obtain⟨a,c,rfl,h2,h3⟩:=h
  refine⟨a,c,rfl,h2.mono hkeep fun b hb=>hblk b ?_,h3⟩
  cases a with
  | none=>simp[ZG] at hb
  | some ad=>simpa [VC,ZG] using hb
 | int k n=>exact⟨h.1,h.2.mono hkeep⟩
 | bool k=>exact⟨h.1,h.2.mono hkeep⟩
 | str k=>exact⟨h.1,h.2.mono hkeep⟩
 | agg cs=>exact absurd h.1 (by simp[D.plain])
theorem ZjJ {w:World} {g p b:Nat} {v:Value} (hv:w.cell? ⟨g,p,none⟩=some v) (hb:VC v=some b):VN w g p=some b:=by
 unfold VN;rw[hv];exact hb
theorem Zec.mono {a:Option Addr} {n c sz ns:Nat} {xs:List D} {I' : Nat→Prop} {w' : World} (h:Zec w I F A a n c sz ns xs) (hkeep:Z3 I I' w w')
  (hown:∀ b,ZG (some (.row a n c sz))=some b→w'.heap[b]?=w.heap[b]?∧(I' b→I b))
  (hin:∀ g p b,ZG (some (.row a n c sz))=some g→p<xs.length*sz→VN w g p=some b→w'.heap[b]?=w.heap[b]?∧(I' b→I b)):Zec w' I' F A a n c sz ns xs:=by
 obtain⟨h2,h3⟩:=h
 refine⟨h2,?_⟩
 rcases h3 with h3 | ⟨g,cur,e,rfl,hc,hw,h4,h5,h6,hpos,h8,hFg,hel,hdis,hne⟩
 ·exact .inl h3
 ·have hbg:ZG (some (.row (some ⟨g,0,none⟩) n c sz))=some g:=by simp[ZG,Nat.ne_of_gt hc]
  obtain⟨h10,h11⟩:=hown g hbg
  have hnb:∀ p,VN w' g p=VN w g p:=fun p=>by unfold VN;rw[World.cell?_of_block (w:=w) (a:=⟨g,p,none⟩) h10]
  refine .inr ⟨g,cur,e,rfl,hc,by rw[h10,hw],h4,h5,h6,hpos,fun hi=>h8 (h11 hi),hFg,?_,fun p q b hp hq h1 h2=>hdis p q b hp hq (hnb p ▸ h1) (hnb q ▸ h2),fun p hp=>by rw[hnb];exact hne p hp⟩
  intro i x hx
  obtain⟨vs,v1,v2,v3⟩:=hel i x hx
  refine⟨vs,v1,v2.mono h10,Zz.of_get v3.length fun j y v hy hv=>?_⟩
  obtain⟨v',hv',hn⟩:=v3.get j y hy
  rw[hv] at hv';cases hv'
  refine hn.mono hkeep fun b hb=>hin g (i*sz+j) b hbg ?_ (ZjJ (v2 j v hv) hb)
  have hi:i<xs.length:=(List.getElem?_eq_some_iff.1 hx).1
  have hj:j<sz:=by rw[← v1];exact(List.getElem?_eq_some_iff.1 hv).1
  have:=Nat.mul_le_mul_right sz (show i+1≤xs.length from hi)
  rw[Nat.add_mul] at this
  omega
theorem Zti.mono {Γ' : Gh} {w' : World} {a:Option Addr} {sz:Nat} {xs:List D} {lk:Option (Nat×Nat×Nat)} (h:Zti Γ w a sz xs lk) (hk:XA Γ Γ') (hblk:∀ g,a=some ⟨g,0,none⟩→w'.heap[g]?=w.heap[g]?):Zti Γ' w' a sz xs lk:=by
 cases lk with
 | none=>trivial
 | some q=>
  obtain⟨nm,i,j⟩:=q
  obtain⟨g,a',n',c',sz',h1,h2,h3,h4,h5⟩:=h
  exact⟨g,a',n',c',sz',h1,hk _ _ h2,h3,h4,by rw[World.cell?_of_block (w:=w) (a:=⟨g,i*sz+j,none⟩) (hblk g h1)];exact h5⟩
theorem Zdp.mono {b:Nat} {cs:List AV} {vs:List Value} {w' : World} {I' F' : Nat→Prop} (h:Zdp w I F b cs vs)
  (hh:∀ x te l u v g,cs=[x,.bbuf te l]→vs=[u,v]→VC v=some g→w'.heap[g]?=w.heap[g]?∧(I' g→I g)∧(F g→F' g)):Zdp w' I' F' b cs vs:=by
 unfold Zdp at h
 split at h
 ·rcases h with h | ⟨g,cap,cur',h1,k1,k2,k3,k4,k5,k6,k7,k8,k9⟩
  ·exact .inl h
  obtain⟨m1,m2,m3⟩:=hh _ _ _ _ _ g rfl rfl (by rw[h1];simp[VC,Nat.ne_of_gt (Nat.lt_of_lt_of_le k1 k3)])
  exact .inr ⟨g,cap,cur',h1,k1,by rw[m1];exact k2,k3,k4,k5,k6,fun hi=>k7 (m2 hi),m3 k8,k9⟩
 ·unfold Zdp
  split
  ·rename_i x te l u v _
   cases x<;>cases h
  ·exact h
theorem Zw5 {id b:Nat} {cur:Array Value} {e:TypeId} {cs:List AV} {x:AV} {te:Nat} {l:List UInt8} {u v:Value} {g:Nat} (h1:Γ id=some (.box (b,e))) (h2:w.heap[b]?=some (.cells cur e (0,0)))
  (hc:cs=[x,.bbuf te l]) (hv:cur.toList=[u,v]) (hg:VC v=some g):Buf Γ w id (.box cs) g:=by
 subst hc
 refine⟨b,by rw[h1];rfl,?_⟩
 have:cur[1]?=some v:=by rw[← Array.getElem?_toList,hv];rfl
 unfold VN
 have hcell:w.cell? ⟨b,1,none⟩=some v:=by simp[World.cell?,h2,this]
 rw[hcell]
 exact hg
theorem Zsf {f:AV→AV} (hf:∀ v te l,f v=.bbuf te l↔v=.bbuf te l):∀ {cs:List AV},YM (cs.map f)=YM cs
 | []=>rfl
 | c :: cs=>by
  have ih:=Zsf hf (cs:=cs)
  by_cases h:∃ te l,c=.bbuf te l
  ·obtain⟨te,l,rfl⟩:=h
   rw[List.map_cons,(hf _ te l).2 rfl];rfl
  ·have e:∀ (v:AV) (r:List AV),(¬∃ te l,v=.bbuf te l)→YM (v :: r)=YM r:=fun v r hv=>by
    cases v<;>first | rfl | exact absurd ⟨_,_,rfl⟩ hv
   rw[List.map_cons,e _ _ h,e _ _ (fun ⟨te,l,hh⟩=>h ⟨te,l,(hf _ _ _).1 hh⟩),ih]
theorem Zdp.map {b:Nat} {cs:List AV} {vs:List Value} {f:AV→AV} (hf:∀ v te l,f v=.bbuf te l↔v=.bbuf te l) (h:Zdp w I F b cs vs):Zdp w I F b (cs.map f) vs:=by
 unfold Zdp at h
 split at h
 ·rename_i x te l u v
  rw[List.map_cons,List.map_cons,(hf _ te l).2 rfl]
  exact h
 ·rename_i hn
  have h' : YM (cs.map f)=true:=by rw[Zsf hf];exact h
  unfold Zdp
  split
  ·rename_i x te l u v heq
   rw[heq] at h'
   cases x<;>cases h'
  ·exact h'
theorem ZbP {b:Nat} {cs:List AV} {vs:List Value} (h:YM cs=true):Zdp w I F b cs vs:=by
 unfold Zdp
 split
 ·rename_i x te l u v
  cases x<;>cases h
 ·exact h
theorem ZjK:∀ (slc:List (Option Nat)) (cs:List AV) (b:Nat),YM (mat slc cs b).1=YM cs:=by
 intro slc
 induction slc with
 | nil=>intro cs b;cases cs<;>rfl
 | cons s ts ih=>
  intro cs b
  cases cs with
  | nil=>cases s<;>rfl
  | cons v vs=>
   cases s with
   | none=>cases v<;>simp only[mat,YM,ih]
   | some s=>cases v<;>simp only[mat,YM,ih]
theorem ZmW:∀ {cs:List AV},YM cs=true↔∀ te l,AV.bbuf te l∉cs
 | []=>by simp[YM]
 | c :: cs=>by
  by_cases h:∃ te l,c=.bbuf te l
  ·obtain⟨te,l,rfl⟩:=h
   simp only[YM,Bool.false_eq_true,false_iff]
   exact fun hh=>hh te l (List.mem_cons_self ..)
  ·have e:YM (c :: cs)=YM cs:=by cases c<;>first | rfl | exact absurd ⟨_,_,rfl⟩ h
   rw[e,ZmW]
   refine forall_congr' fun te=>forall_congr' fun l=>not_congr ?_
   rw[List.mem_cons]
   exact⟨.inr,fun hh=>hh.elim (fun hh=>absurd ⟨te,l,hh.symm⟩ h) fun hh=>hh⟩
theorem ZdE {cs vs:List AV} {off:Nat} (h1:YM cs=true) (h2:YM vs=true):YM (Qp cs off vs)=true:=by
 rw[ZmW] at h1 h2 ⊢
 intro te l hm
 unfold Qp at hm
 rcases List.mem_append.1 hm with hm | hm
 ·rcases List.mem_append.1 hm with hm | hm
  ·exact h1 te l (List.mem_of_mem_take hm)
  ·exact h2 te l hm
 ·exact h1 te l (List.mem_of_mem_drop hm)
theorem Zcx:∀ {vs:List AV},Vj vs=true→YM vs=true
 | [],_=>rfl
 | v :: vs,h=>by
  simp only[Vj,Bool.and_eq_true] at h
  have:=Zcx h.2
  cases v<;>first | exact this | (cases h.1)
theorem Zu6 {id:Nat} {cs:List AV} {b:Nat} (hn:YM cs=true) (h:Buf Γ w id (.box cs) b):False:=by
 obtain⟨x,te,l,g,h1,_⟩:=h.is
 cases h1
 cases x<;>cases hn
theorem Zat (g:List Nat) (v:AV) (te:Nat) (l:List UInt8):Z6 g v=.bbuf te l↔v=.bbuf te l:=by
 constructor
 ·intro h
  cases v<;>simp only[Z6,Qr] at h<;>first | exact h | (cases h;done) | (split at h<;>cases h)
 ·rintro rfl;rfl
theorem ZdP (g:Nat→Nat) (v:AV) (te:Nat) (l:List UInt8):Zgm g v=.bbuf te l↔v=.bbuf te l:=by
 constructor
 ·intro h
  cases v<;>simp only[Zgm,Zgl] at h<;>first | exact h | (cases h;done)
 ·rintro rfl;rfl
theorem Buf.unmap {id:Nat} {cs:List AV} {f:AV→AV} (hf:∀ v te l,f v=.bbuf te l↔v=.bbuf te l) {b:Nat} (h:Buf Γ w id (.box (cs.map f)) b):Buf Γ w id (.box cs) b:=by
 obtain⟨x,te,l,g,h1,h2,h3⟩:=h.is
 match cs,h1 with
 | [],h1=>cases h1
 | [_],h1=>simp at h1
 | _ :: _ :: _ :: _,h1=>simp at h1
 | [y,z],h1=>
  simp only[List.map_cons,List.map_nil,Zo.box.injEq,List.cons.injEq,and_true] at h1
  rw[(hf _ _ _).1 h1.2]
  exact⟨g,h2,h3⟩
theorem Buf.ren {Γ' : Gh} {id id' : Nat} {o:Zo} {b:Nat} (h:Buf Γ w id o b) (hg:Γ' id'=Γ id):Buf Γ' w id' o b:=by
 obtain⟨x,te,l,g,rfl,h2,h3⟩:=h.is
 exact⟨g,by rw[hg];exact h2,h3⟩
theorem W1.mono {Γ' : Gh} {I' : Nat→Prop} {w' : World} {id:Nat} {o:Zo} (ho:W1 Γ w I F A id o) (hk:XA Γ Γ') (hkeep:Z3 I I' w w')
  (hblk:∀ b,Blk Γ w id o b→w'.heap[b]?=w.heap[b]?∧(I' b→I b)):W1 Γ' w' I' F A id o:=by
 cases o with
 | deep sz ns xs lk=>
  obtain⟨ad,n,c,h1,h2,h3⟩:=ho
  refine⟨ad,n,c,hk _ _ h1,h2.mono hkeep (fun b hb=>hblk b (.inl (by rw[h1];exact hb))) fun g p b hg hp hb=>hblk b (.inr (.inl ⟨g,p,by rw[h1];exact hg,hp,hb⟩)),?_⟩
  cases lk with
  | none=>trivial
  | some q=>
   refine h3.mono hk fun g hg=>(hblk g (.inl ?_)).1
   subst hg
   rw[h1]
   obtain⟨nm,i,j⟩:=q
   obtain⟨g',a',n',c',sz',h4,h5,h6,_⟩:=h3
   have hn:=h2.1
   rcases h2.2 with h7 | ⟨_,_,_,_,h7,_⟩
   ·omega
   ·simp[ZG,Nat.ne_of_gt h7]
 | box cs=>
  obtain⟨b,cur,e,h1,h2,h3,h4,h5,h8⟩:=ho
  obtain⟨h6,h7⟩:=hblk b (.inl (by rw[h1];rfl))
  exact⟨b,cur,e,hk _ _ h1,by rw[h6,h2],fun hi=>h3 (h7 hi),h4,h5.mono fun _ _ h=>h.mono hk hkeep,h8.mono fun x te l u v g hc hv hg=>
   have:=hblk g (.inr (.inr (Zw5 h1 h2 hc hv hg)));⟨this.1,this.2,fun h=>h⟩⟩
 | row sz xs ex fz=>
  obtain⟨ad,n,c,h1,h2,h3⟩:=ho
  refine⟨ad,n,c,hk _ _ h1,h2,?_⟩
  rcases h3 with h3 | ⟨g,cur,e,rfl,hc,hw,h4,h5,h6,h7,h8,hFg,h9⟩
  ·exact .inl h3
  ·obtain⟨h10,h11⟩:=hblk g (.inl (by rw[h1];simp[ZG,Nat.ne_of_gt hc]))
   refine .inr ⟨g,cur,e,rfl,hc,by rw[h10,hw],h4,h5,h6,h7,?_,hFg,?_⟩
   ·cases fz
    ·simp at h8 ⊢;exact fun hi=>h8 (h11 hi)
    ·simp at h8 ⊢;exact hkeep.sub g h8
   ·cases ex
    ·exact h9.mono' hkeep h10
    ·simp only[if_true] at h9 ⊢
     exact h9.mono' ⟨fun b hb=>⟨hkeep.sub b hb.1,hb.2⟩,fun b hb=>hkeep.blk b hb.1⟩ h10
theorem Sim.blk_lt (h:Sim nt F A I Γ U sl hp a w) {id:Nat} {o:Zo} (hl:lkp hp id=some o) {b:Nat} (hb:Blk Γ w id o b):b<w.heap.size:=by
 have ho:=h.objs id o hl
 rcases hb with hb | hb | hb
 rotate_left
 ·exact(ZpL ho hb).1
 ·exact(ZA9 ho hb).1
 cases o with
 | deep sz ns xs lk=>
  obtain⟨ad,n,c,h1,⟨_,h3⟩,_⟩:=ho
  rw[h1] at hb
  rcases h3 with h3 | ⟨g,cur,e,rfl,hc,hw,_⟩
  ·cases ad<;>simp[ZG,h3.2] at hb
  ·simp only[ZG,Nat.ne_of_gt hc,if_false] at hb;cases hb
   exact(Array.getElem?_eq_some_iff.1 hw).1
 | box cs=>
  obtain⟨b',cur,e,h1,h2,_⟩:=ho
  rw[h1] at hb;cases hb
  exact(Array.getElem?_eq_some_iff.1 h2).1
 | row sz xs ex fz=>
  obtain⟨ad,n,c,h1,h2,h3⟩:=ho
  rw[h1] at hb
  rcases h3 with h3 | ⟨g,cur,e,rfl,hc,hw,_⟩
  ·cases ad<;>simp[ZG,h3.2] at hb
  ·simp only[ZG,Nat.ne_of_gt hc,if_false] at hb;cases hb
   exact(Array.getElem?_eq_some_iff.1 hw).1
theorem Zkf {id:Nat} {o:Zo} (ho:W1 Γ w I F A id o) {b:Nat} (hb:Blk Γ w id o b):F b:=by
 rcases hb with hb | hb | hb
 rotate_left
 ·exact(ZpL ho hb).2.2
 ·exact(ZA9 ho hb).2.2.1
 cases o with
 | box cs=>
  obtain⟨b',cur,e,h1,h2,h3,h4,_⟩:=ho
  rw[h1] at hb;cases hb
  exact h4
 | row sz xs ex fz=>
  obtain⟨ad,n,c,h1,h2,h3⟩:=ho
  rw[h1] at hb
  obtain⟨ad',rfl,rfl,hc⟩:=Zej hb
  rcases h3 with h3 | ⟨g,cur,e,hg,h4,h5,h6,h7,h8,h9,h10,hFg,h11⟩
  ·exact absurd h3.2 hc
  ·cases hg;exact hFg
 | deep sz ns xs lk=>
  obtain⟨ad,n,c,h1,⟨h2,h3⟩,_⟩:=ho
  rw[h1] at hb
  obtain⟨ad',rfl,rfl,hc⟩:=Zej hb
  rcases h3 with h3 | ⟨g,cur,e,hg,h4,h5,h6,h7,h8,h9,h10,hFg,h11⟩
  ·exact absurd h3.2 hc
  ·cases hg;exact hFg
theorem Zsg {S:Nat→Prop} {ns:Nat} {y:D} {v:Value} (h:UC w I F A ns y v) (hI:∀ b,I b→A b→S b) (hb:∀ b,VC v=some b→S b):y.one=true∧Z2 w S y [v]:=by
 cases y with
 | sl ys=>
  obtain⟨a,c,rfl,⟨_,h2⟩,h3⟩:=h
  refine⟨rfl,a,c,rfl,?_⟩
  rcases h2 with h2 | ⟨g,cur,e,rfl,hc,hw,h4,h5,h6,h7,h8,hFg,h9⟩
  ·exact⟨by omega,.inl (List.eq_nil_of_length_eq_zero h2.1)⟩
  ·refine⟨h4,.inr ⟨g,0,ns,rfl,hb g (by simp[VC,Nat.ne_of_gt hc]),h7,?_⟩⟩
   simp only[if_true] at h9
   exact h9.mono' ⟨fun b hb=>hI b hb.1 hb.2,fun _ _=>rfl⟩ rfl
 | int k n=>exact⟨rfl,by simpa [Z2] using h.2⟩
 | bool k=>exact⟨rfl,by simpa [Z2] using h.2⟩
 | str k=>exact⟨rfl,by simpa [Z2] using h.2⟩
 | agg cs=>exact absurd h.1 (by simp[D.plain])
theorem ZfI {S:Nat→Prop} {x:D} {vs:List Value} (h:Zz (fun d v=>d.one=true∧Z2 w S d [v]) x.cells vs):Z2 w S x vs:=by
 have one:∀ {y:D},Zz (fun d v=>d.one=true∧Z2 w S d [v]) [y] vs→Z2 w S y vs:=by
  intro y h
  cases vs with
  | nil=>exact h.elim
  | cons v vs=>cases vs with
   | nil=>exact h.1.2
   | cons _ _=>exact h.2.elim
 cases x with
 | agg cs=>exact Yf.2 h
 | int k n=>exact one h
 | bool b=>exact one h
 | str b=>exact one h
 | sl b=>exact one h
theorem ZpM {S:Nat→Prop} {g n c sz ns:Nat} {xs:List D} (hd:Zec w I F A (some ⟨g,0,none⟩) n c sz ns xs) (hI:∀ b,I b→A b→S b) (hin:∀ p b,p<xs.length*sz→VN w g p=some b→S b):ZaS w S g sz xs 0:=by
 rw[YZ]
 intro i x hx
 obtain⟨g',vs,hg,h1,h2,h3⟩:=ZdN hd hx
 cases hg
 refine⟨vs,h1,by simpa using h2,ZfI (Zz.of_get h3.length fun j y v hy hv=>?_)⟩
 obtain⟨v',hv',hn⟩:=h3.get j y hy
 rw[hv] at hv';cases hv'
 refine Zsg hn hI fun b hb=>hin (i*sz+j) b ?_ (ZjJ (h2 j v hv) hb)
 have hi:i<xs.length:=(List.getElem?_eq_some_iff.1 hx).1
 have hj:j<sz:=by rw[← h1];exact(List.getElem?_eq_some_iff.1 hv).1
 have:=Nat.mul_le_mul_right sz (show i+1≤xs.length from hi)
 rw[Nat.add_mul] at this
 omega
theorem Sim.id_in (h:Sim nt F A I Γ U sl hp a w) {id:Nat} {o:Zo} (hl:lkp hp id=some o):U id:=by
 have ho:=h.objs id o hl
 by_cases hid:¬U id
 ·have hn:=h.names id hid
  cases o with
  | box cs=>obtain⟨b',cur,e,h1,_⟩:=ho;rw[hn] at h1;cases h1
  | row sz xs ex fz=>obtain⟨ad,n,c,h1,_⟩:=ho;rw[hn] at h1;cases h1
  | deep sz ns xs lk=>obtain⟨ad,n,c,h1,_⟩:=ho;rw[hn] at h1;cases h1
 ·exact Classical.not_not.1 hid
def upd (Γ:Gh) (id:Nat) (r:Ref):Gh:=fun k=>if k=id then some r else Γ k
theorem ZR (Γ:Gh) (id:Nat) (r:Ref):upd Γ id r id=some r:=by simp[upd]
theorem Qv (Γ:Gh) {id k:Nat} (r:Ref) (h:k≠id):upd Γ id r k=Γ k:=by simp[upd,h]
theorem Wq {Γ:Gh} {id:Nat} (r:Ref) (h:Γ id=none):XA Γ (upd Γ id r):=fun k x hk=>by
 unfold upd
 split
 ·rename_i e;subst e;rw[h] at hk;cases hk
 ·exact hk
theorem Sim.add (h:Sim nt F A I Γ U sl hp a w) {U' : Nat→Prop} {adds:Hp} {Γ' : Gh} {w' : World} {v:AV} {u:Value} {dst:Option Nat}
  (hk:XA Γ Γ') (hext:∀ k,k<w.heap.size→w'.heap[k]?=w.heap[k]?) (hsz:w.heap.size≤w'.heap.size) (hos:w'.os=w.os) (htape:w'.tape=w.tape) (hout:w'.output=w.output)
  (hobj:∀ k o,(k,o)∈adds→W1 Γ' w' I F A k o)
  (hinj:∀ i j o o' b,(i,o)∈adds→(j,o')∈adds→Blk Γ' w' i o b→Blk Γ' w' j o' b→i=j)
  (hnew:∀ k o b,(k,o)∈adds→Blk Γ' w' k o b→w.heap.size≤b)
  (hbefore:∀ k,U k→Γ' k=Γ k)
  (hnames:∀ id,¬U' id→Γ' id=none) (hrep:Rep Γ' w' I v u) (hdst:XI nt dst=true) :
  JX nt F A I Γ w U' (Zw sl dst v) (Zg hp adds) (a.put dst u) w':=by
 have hkeep:Z3 I I w w':=⟨fun _ h=>h,fun b hI=>hext b (h.bound b hI)⟩
 have hold:∀ id o,lkp hp id=some o→Γ' id=Γ id:=fun id o hl=>hbefore id (h.id_in hl)
 have back:∀ id o b,lkp hp id=some o→Blk Γ' w' id o b→Blk Γ w id o b:=fun id o b hl hb=>hb.back (hold id o hl) fun g hg=>hext g (h.blk_lt hl (.inl hg))
 refine⟨I,Γ',fun id b hg=>hk _ _ hg,hkeep,fun _ h=>.inl h,⟨hos,htape,hout,hsz,fun k hk _=>hext k hk⟩,?_⟩
 refine h.next hk hkeep ?_ ?_ (fun b hI=>by have:=h.bound b hI;omega) hsz hnames hrep hdst
 ·intro id o hl
  rcases ZbO adds hp id o hl with hm | hm
  ·exact hobj id o hm
  ·exact(h.objs id o hm).mono hk hkeep fun b hb=>⟨hext b (h.blk_lt hm hb),fun h=>h⟩
 ·intro i j o o' b hi hj hbi hbj
  rcases ZbO adds hp i o hi with hi | hi<;>rcases ZbO adds hp j o' hj with hj | hj
  ·exact hinj i j o o' b hi hj hbi hbj
  ·have h1:=hnew i o b hi hbi
   have h2:=h.blk_lt hj (back j o' b hj hbj)
   omega
  ·have h1:=hnew j o' b hj hbj
   have h2:=h.blk_lt hi (back i o b hi hbi)
   omega
  ·exact h.inj i j o o' b hi hj (back i o b hi hbi) (back j o' b hj hbj)
theorem ZBa (w:World) (I F A:Nat→Prop) (hi:Nat):∀ (slc:List (Option Nat)) (cs:List AV) (vs:List Value) (b:Nat) (Γ:Gh),Xl b hi (mat slc cs b).2=true→(∀ id,b≤id→id<hi→Γ id=none)→Zz (YA Γ w I) cs vs →
  ∃ Γ',XA Γ Γ'∧(∀ k,k<b∨hi≤k→Γ' k=Γ k)∧(∀ k o,(k,o)∈(mat slc cs b).2→b≤k∧W1 Γ' w I F A k o∧ZG (Γ' k)=none)∧Zz (YA Γ' w I) (mat slc cs b).1 vs:=by
 intro slc cs
 induction cs generalizing slc with
 | nil=>
  intro vs b Γ hok hn h
  have hm:mat slc [] b=([],[]):=by cases slc<;>simp[mat]<;>(rename_i x _;cases x<;>simp[mat])
  rw[hm]
  exact⟨Γ,XA.refl Γ,fun _ _=>rfl,fun k o hko=>by simp at hko,h⟩
 | cons c cs ih=>
  intro vs b Γ hok hn h
  cases vs with
  | nil=>exact h.elim
  | cons v vs=>
   have skip:∀ slc',mat slc (c :: cs) b=(c :: (mat slc' cs b).1,(mat slc' cs b).2)→∃ Γ',XA Γ Γ'∧(∀ k,k<b∨hi≤k→Γ' k=Γ k) ∧
     (∀ k o,(k,o)∈(mat slc (c :: cs) b).2→b≤k∧W1 Γ' w I F A k o∧ZG (Γ' k)=none)∧Zz (YA Γ' w I) (mat slc (c :: cs) b).1 (v :: vs):=by
    intro slc' he
    rw[he] at hok
    obtain⟨Γ',h1,h2,h3,h5⟩:=ih slc' vs b Γ hok hn h.2
    rw[he]
    exact⟨Γ',h1,h2,h3,h.1.mono h1 (Z3.refl I w),h5⟩
   cases slc with
   | nil=>
    have he:mat [] (c :: cs) b=(c :: cs,[]):=by cases c<;>simp[mat]
    rw[he]
    exact⟨Γ,XA.refl Γ,fun _ _=>rfl,fun k o hko=>by simp at hko,h⟩
   | cons s slc=>
    by_cases hc:∃ s',s=some s'∧c=.nil
    ·obtain⟨s',rfl,rfl⟩:=hc
     obtain⟨ad,hv⟩:∃ ad,v=.slice ad 0 0:=h.1
     have he:mat (some s' :: slc) (.nil :: cs) b=(.own b :: (mat slc cs (b+1)).1,(b,.row s' [] true false) :: (mat slc cs (b+1)).2):=by simp[mat]
     rw[he] at hok
     simp only[Xl,Bool.and_eq_true,decide_eq_true_eq] at hok
     have hn' : ∀ id,b+1≤id→id<hi→upd Γ b (.row ad 0 0 s') id=none:=fun id hid hlt=>by rw[Qv _ _ (by omega)];exact hn id (by omega) hlt
     have hk:=Wq (.row ad 0 0 s') (hn b (Nat.le_refl b) hok.1.2)
     obtain⟨Γ',h1,h2,h3,h5⟩:=ih slc vs (b+1) (upd Γ b (.row ad 0 0 s')) hok.2 hn' (h.2.mono fun _ _ h=>h.mono hk (Z3.refl I w))
     have hb:Γ' b=some (.row ad 0 0 s'):=h1 _ _ (ZR _ _ _)
     rw[he]
     refine⟨Γ',fun id r hr=>h1 _ _ (hk _ _ hr),fun k hk'=>by rw[h2 k (by omega),Qv _ _ (by omega)],?_,⟨ad,0,0,s',hb,hv⟩,h5⟩
     intro k o hko
     rcases List.mem_cons.1 hko with hko | hko
     ·cases hko
      exact⟨Nat.le_refl _,⟨ad,0,0,hb,rfl,.inl ⟨rfl,rfl⟩⟩,by rw[hb];cases ad<;>simp[ZG]⟩
     ·obtain⟨h6,h7⟩:=h3 k o hko
      exact⟨by omega,h7⟩
    ·refine skip slc ?_
     cases s with
     | none=>cases c<;>simp[mat]
     | some s'=>cases c<;>first | (exact absurd ⟨s',rfl,rfl⟩ hc) | simp[mat]
end
end Go.Abs
