/- The abstract semantics and the model: operations that make or turn something. Own text. -/
import Derived.Test.YtpobhkoombldlaaGreatAbsPure
set_option linter.unusedVariables false
set_option linter.unusedSimpArgs false
namespace Go.Abs
open Go
theorem Qo {α:Type}:∀ (l:List (Nat×α)) (t:Nat) (v:α) (t' : Nat),lkp (ins l t v) t'=if t=t' then some v else lkp l t'
 | [],t,v,t'=>by simp[ins,lkp]
 | (k,x) :: r,t,v,t'=>by
  simp only[ins]
  split
  ·simp[lkp]
  ·split
   ·rename_i h;subst h;by_cases ht:k=t' <;> simp[lkp,ht]
   ·rename_i h
    simp only[lkp,Qo r t v t']
    by_cases hk:k=t'
    ·subst hk;simp[Ne.symm h]
    ·simp[hk]
theorem Zjb:∀ (l:Hp) (t t' : Nat),lkp (del l t) t'=if t=t' then none else lkp l t'
 | [],t,t'=>by simp[del,lkp]
 | (k,x) :: r,t,t'=>by
  simp only[del]
  split
  ·rename_i h;subst h;rw[Zjb r k t']
   by_cases ht:k=t' <;> simp[lkp,ht]
  ·rename_i h
   simp only[lkp,Zjb r t t']
   by_cases hk:k=t'
   ·subst hk;simp[Ne.symm h]
   ·simp[hk]
theorem ZbV:∀ (ds:List Nat) (l:Hp) (id:Nat) (o:Zt),lkp (Qv l ds) id=some o→lkp l id=some o∧id∉ds
 | [],l,id,o,h=>⟨h,by simp⟩
 | d :: ds,l,id,o,h=>by
  obtain⟨h1,h2⟩:=ZbV ds (del l d) id o h
  rw[Zjb] at h1
  split at h1
  ·cases h1
  ·rename_i hd
   exact⟨h1,by simp only[List.mem_cons,not_or];exact⟨fun e=>hd e.symm,h2⟩⟩
theorem ZbW:∀ (l:Hp) (hp:Hp) (id:Nat) (o:Zt),lkp (Zi hp l) id=some o→(id,o)∈l∨lkp hp id=some o
 | [],hp,id,o,h=>.inr h
 | (k,x) :: r,hp,id,o,h=>by
  rcases ZbW r (ins hp k x) id o h with h1 | h1
  ·exact .inl (List.mem_cons_of_mem _ h1)
  ·rw[Qo] at h1
   split at h1
   ·rename_i hk;subst hk;cases h1;exact .inl (List.mem_cons_self ..)
   ·exact .inr h1
theorem Zp6 (ids:List Nat):∀ (l:Hp) (id:Nat),lkp (freeze ids l) id=(lkp l id).map fun o=>if ids.contains id then WM o else o
 | [],id=>by simp[freeze,lkp]
 | (k,x) :: r,id=>by
  simp only[freeze,lkp,Zp6 ids r id]
  by_cases hk:k=id
  ·subst hk;simp
  ·simp[hk]
theorem Qj (ids:List Nat) (l:Hp) (id:Nat):lkp (Ql ids l) id=(lkp l id).map fun o=>if ids.contains id then WM o else o:=by
 unfold Ql
 split
 ·simp
 ·exact Zp6 _ l id
theorem Zea {α β:Type} (f:α→β):∀ (l:List (Nat×α)) (t:Nat),lkp (Zjn f l) t=(lkp l t).map f
 | [],t=>by simp[Zjn,lkp]
 | (k,x) :: r,t=>by
  simp only[Zjn,lkp,Zea f r t]
  by_cases hk:k=t<;>simp[hk]
theorem QN (sl:Sl) (dst:Option Nat) (v:AV) (t:Nat):gs (Zw sl dst v) t=if dst=some t then v else gs sl t:=by
 cases dst with
 | none=>simp[Zw]
 | some d=>
  simp only[Zw,gs,Qo,Option.some.injEq]
  by_cases h:d=t<;>simp[h,ZeQ]
theorem Jj:∀ {l:Hp} {lo hi:Nat},Q8 lo hi l=true→∀ k o,(k,o)∈l→lo≤k∧k<hi
 | [],_,_,_,k,o,h=>by simp at h
 | (k',o') :: r,lo,hi,h,k,o,hm=>by
  simp only[Q8,Bool.and_eq_true,decide_eq_true_eq] at h
  rcases List.mem_cons.1 hm with hm | hm
  ·cases hm;exact⟨h.1.1,h.1.2⟩
  ·have:=Jj h.2 k o hm;exact⟨by omega,this.2⟩
def JZ (nt:Nat) (F A I:Nat→Prop) (Γ:Gh) (w:World) (U' : Nat→Prop) (sl' : Sl) (hp' : Hp) (a' : Act) (w' : World):Prop:=
 ∃ I' Γ',(∀ id b,Γ id=some (.box b)→Γ' id=some (.box b))∧ZY I I' w w'∧(∀ b,I' b→I b∨F b)∧Fr F w w'∧Sim nt F A I' Γ' U' sl' hp' a' w'
theorem ZY.refl (I:Nat→Prop) (w:World):ZY I I w w:=⟨fun _ h=>h,fun _ _=>rfl⟩
theorem ZY.trans {I I' I'' : Nat→Prop} {w w' w'' : World} (h:ZY I I' w w') (k:ZY I' I'' w' w''):ZY I I'' w w'' :=
 ⟨fun b hb=>k.sub b (h.sub b hb),fun b hb=>(k.blk b (h.sub b hb)).trans (h.blk b hb)⟩
theorem Xt.refl (Γ:Gh):Xt Γ Γ:=fun _ _ h=>h
theorem ZvN (a:Act) (dst:Option Tmp) (u:Value):(a.put dst u).tmps.size=a.tmps.size:=by
 cases dst<;>simp[Act.put]
theorem Zp7 (a:Act) (dst:Option Tmp) (u:Value):(a.put dst u).defers=a.defers:=by
 cases dst<;>simp[Act.put]
theorem Zyi {a:Act} {nt:Nat} (hn:a.tmps.size=nt) {dst:Option Tmp} (hd:XA nt dst=true) (u:Value) (t:Nat):(a.put dst u).tmps.getD t undef=if dst=some t then u else a.tmps.getD t undef:=by
 cases dst with
 | none=>simp[Act.put]
 | some d=>
  simp only[XA,decide_eq_true_eq] at hd
  by_cases h:d=t
  ·subst h;simp[Act.put,hn,hd]
  ·simp[Act.put,h]
section
variable {P:Program} {nt:Nat} {U:Nat→Prop} {F A I:Nat→Prop} {Γ:Gh} {sl:Sl} {hp:Hp} {a:Act} {w:World}
theorem Sim.slOK (h:Sim nt F A I Γ U sl hp a w):Zdl Γ w I sl a:=h.slots
theorem Sim.hpOK (h:Sim nt F A I Γ U sl hp a w):ZbQ Γ w I F A hp:=h.objs
theorem Sim.more (h:Sim nt F A I Γ U sl hp a w) {U' : Nat→Prop} (hn:∀ id,U id→U' id):Sim nt F A I Γ U' sl hp a w:=
 { h with names:=fun id hid=>h.names id fun hu=>hid (hn id hu) }
theorem Sim.next (h:Sim nt F A I Γ U sl hp a w) {I' : Nat→Prop} {Γ' : Gh} {w' : World} {hp' : Hp} {v:AV} {u:Value} {dst:Option Nat} {U' : Nat→Prop}
  (hk:Xt Γ Γ') (hkeep:ZY I I' w w') (hobj:ZbQ Γ' w' I' F A hp')
  (hinj:∀ i j o o' b,lkp hp' i=some o→lkp hp' j=some o'→Blk Γ' w' i o b→Blk Γ' w' j o' b→i=j)
  (hbound:∀ b,I' b→b<w'.heap.size) (hsz:w.heap.size≤w'.heap.size) (hnames:∀ id,¬U' id→Γ' id=none) (hrep:Rep Γ' w' I' v u) (hdst:XA nt dst=true) :
  Sim nt F A I' Γ' U' (Zw sl dst v) hp' (a.put dst u) w' where
 nt:=by rw[ZvN];exact h.nt
 dfr:=by rw[Zp7];exact h.dfr
 slots:=fun t=>by
  rw[QN,Zyi h.nt hdst]
  split
  ·exact hrep
  ·exact(h.slots t).mono hk hkeep
 objs:=hobj
 inj:=hinj
 bound:=hbound
 fresh:=fun b hb=>h.fresh b (by omega)
 own:=h.own
 names:=hnames
 glob:=h.glob.mono hkeep
theorem Sim.pure (h:Sim nt F A I Γ U sl hp a w) {v:AV} {u:Value} {dst:Option Nat} {U' : Nat→Prop} (hn:∀ id,U id→U' id) (hrep:Rep Γ w I v u) (hdst:XA nt dst=true) :
  JZ nt F A I Γ w U' (Zw sl dst v) hp (a.put dst u) w:=
 ⟨I,Γ,fun _ _ h=>h,ZY.refl I w,fun _ h=>.inl h,Fr.refl F w,h.next (Xt.refl Γ) (ZY.refl I w) h.objs h.inj h.bound (Nat.le_refl _) (fun id hid=>h.names id fun hu=>hid (hn id hu)) hrep hdst⟩
theorem Zeb {a:Option Addr} {n c sz b:Nat} (h:ZL (some (.row a n c sz))=some b):∃ ad,a=some ad∧ad.block=b∧c≠0:=by
 cases a with
 | none=>simp[ZL] at h
 | some ad=>
  simp only[ZL] at h
  split at h
  ·cases h
  ·cases h;exact⟨ad,rfl,rfl,by assumption⟩
theorem ZsX {ns:Nat} {y:D} {v:Value} (h:UA w I F A ns y v) {b:Nat} (hb:WD v=some b) :
  ∃ ys a c,y=.sl ys∧v=.slice a ys.length c∧Zfw w I F A a ys.length c ns ys true false∧ZcV D.flat ys=true∧ZL (some (.row a ys.length c ns))=some b:=by
 cases y with
 | sl ys=>
  obtain⟨a,c,rfl,h2,h3⟩:=h
  refine⟨ys,a,c,rfl,rfl,h2,h3,?_⟩
  cases a with
  | none=>simp[WD] at hb
  | some ad=>simpa [WD,ZL] using hb
 | int k n=>obtain⟨_,h2⟩:=h;simp[Z1] at h2;subst h2;simp[WD] at hb
 | bool k=>obtain⟨_,h2⟩:=h;simp[Z1] at h2;subst h2;simp[WD] at hb
 | str k=>obtain⟨_,h2⟩:=h;simp[Z1] at h2;obtain⟨t,h2,_⟩:=h2;subst h2;simp[WD] at hb
 | agg cs=>exact absurd h.1 (by simp[D.plain])
theorem ZCl {a:Option Addr} {n c sz b:Nat} {xs:List D} {ex:Bool} (h:Zfw w I F A a n c sz xs ex false) (hb:ZL (some (.row a n c sz))=some b):b<w.heap.size∧¬I b∧F b:=by
 obtain⟨ad,rfl,rfl,hc⟩:=Zeb hb
 rcases h.2 with h3 | ⟨g,cur,e,hg,h4,hw,h6,h7,h8,h9,h10,h11,h12⟩
 ·exact absurd h3.2 hc
 ·cases hg
  exact⟨(Array.getElem?_eq_some_iff.1 hw).1,by simpa using h10,h11⟩
theorem ZAo {id:Nat} {o:Zt} (ho:UB Γ w I F A id o) {b:Nat} (hb:YT Γ w id o b) :
  ∃ sz ns xs lk i j x ys v a c g,o=.deep sz ns xs lk∧xs[i]?=some x∧x.cells[j]?=some (.sl ys)∧j<sz∧ZL (Γ id)=some g∧w.cell? ⟨g,i*sz+j,none⟩=some v∧v=.slice a ys.length c∧Zfw w I F A a ys.length c ns ys true false∧ZL (some (.row a ys.length c ns))=some b:=by
 cases o with
 | box cs=>exact hb.elim
 | row sz xs ex fz=>exact hb.elim
 | deep sz ns xs lk=>
  obtain⟨g,p,hg,hp,hn⟩:=hb
  obtain⟨ad,n,c,h1,hd,_⟩:=ho
  rw[h1] at hg
  obtain⟨ad',rfl,rfl,hc⟩:=Zeb hg
  obtain⟨h2,h3⟩:=hd
  rcases h3 with h3 | ⟨g,cur,e,hg',hc0,hw,h4,h5,h6,hpos,h8,hFg,hel,hdis,hne⟩
  ·exact absurd h3.2 hc
  ·cases hg'
   have hi:p / sz<xs.length:=(Nat.div_lt_iff_lt_mul hpos).2 hp
   obtain⟨vs,v1,v2,v3⟩:=hel (p / sz) xs[p / sz] (List.getElem?_eq_getElem hi)
   have hj:p % sz<sz:=Nat.mod_lt _ hpos
   obtain⟨v,hv⟩:∃ v,vs[p % sz]?=some v:=⟨_,List.getElem?_eq_getElem (by omega)⟩
   have hcell:=v2 _ _ hv
   have e1:p / sz*sz+p % sz=p:=by rw[Nat.mul_comm];exact Nat.div_add_mod p sz
   rw[e1] at hcell
   unfold JK at hn
   rw[hcell] at hn
   obtain⟨y,hy,hny⟩:=v3.get' _ _ hv
   obtain⟨ys,a',c',rfl,rfl,h12,_,h13⟩:=ZsX hny hn
   exact⟨sz,ns,xs,lk,p / sz,p % sz,_,ys,_,a',c',g,rfl,List.getElem?_eq_getElem hi,hy,hj,by rw[h1];simp[ZL,hc],by rw[e1];exact hcell,rfl,h12,h13⟩
theorem Zp8 {id:Nat} {o:Zt} (ho:UB Γ w I F A id o) {b:Nat} (hb:YT Γ w id o b):b<w.heap.size∧¬I b∧F b:=by
 obtain⟨sz,ns,xs,lk,i,j,x,ys,v,a,c,g,_,_,_,_,_,_,_,h1,h2⟩:=ZAo ho hb
 exact ZCl h1 h2
theorem ZFV {id sz ns:Nat} {xs:List D} {lk:Option (Nat×Nat×Nat)} {n c:Nat} {a:Option Addr} (h1:Γ id=some (.row a n c sz)) {b:Nat} (h:YT Γ w id (.deep sz ns xs lk) b) :
  ∃ g p,a=some g∧c≠0∧p<xs.length*sz∧JK w g.block p=some b:=by
 obtain⟨g,p,hg,hp,hn⟩:=h
 rw[h1] at hg
 obtain⟨ad',rfl,rfl,hc⟩:=Zeb hg
 exact⟨ad',p,rfl,hc,hp,hn⟩
theorem YT.back {Γ' : Gh} {w' : World} {id:Nat} {o:Zt} {b:Nat} (h:YT Γ' w' id o b) (hg:Γ' id=Γ id) (hw:∀ g,ZL (Γ id)=some g→w'.heap[g]?=w.heap[g]?):YT Γ w id o b:=by
 cases o with
 | box cs=>exact h.elim
 | row sz xs ex fz=>exact h.elim
 | deep sz ns xs lk=>
  obtain⟨g,p,h1,h2,h3⟩:=h
  rw[hg] at h1
  refine⟨g,p,h1,h2,?_⟩
  unfold JK at h3 ⊢
  rwa [World.cell?_of_block (w:=w) (a:=⟨g,p,none⟩) (hw g h1)] at h3
theorem Blk.back {Γ' : Gh} {w' : World} {id:Nat} {o:Zt} {b:Nat} (h:Blk Γ' w' id o b) (hg:Γ' id=Γ id) (hw:∀ g,ZL (Γ id)=some g→w'.heap[g]?=w.heap[g]?):Blk Γ w id o b:=by
 rcases h with h | h
 ·exact .inl (hg ▸ h)
 ·exact .inr (h.back hg hw)
theorem Blk.nil {id:Nat} {o:Zt} {b:Nat} (h:Blk Γ w id o b) (h0:ZL (Γ id)=none):False:=by
 rcases h with h | h
 ·rw[h0] at h;cases h
 ·cases o with
  | box cs=>exact h
  | row sz xs ex fz=>exact h
  | deep sz ns xs lk=>obtain⟨g,p,h1,_⟩:=h;rw[h0] at h1;cases h1
theorem Blk.box {id:Nat} {cs:List AV} {b:Nat} (h:Blk Γ w id (.box cs) b):ZL (Γ id)=some b:=h.elim (fun h=>h) False.elim
theorem Blk.row {id sz:Nat} {xs:List D} {ex fz:Bool} {b:Nat} (h:Blk Γ w id (.row sz xs ex fz) b):ZL (Γ id)=some b:=h.elim (fun h=>h) False.elim
theorem Zfw.mono {a:Option Addr} {n c sz:Nat} {xs:List D} {ex fz:Bool} {I' : Nat→Prop} {w' : World} (h:Zfw w I F A a n c sz xs ex fz) (hkeep:ZY I I' w w')
  (hblk:∀ b,ZL (some (.row a n c sz))=some b→w'.heap[b]?=w.heap[b]?∧(I' b→I b)):Zfw w' I' F A a n c sz xs ex fz:=by
 obtain⟨h2,h3⟩:=h
 refine⟨h2,?_⟩
 rcases h3 with h3 | ⟨g,cur,e,rfl,hc,hw,h4,h5,h6,h7,h8,hFg,h9⟩
 ·exact .inl h3
 ·obtain⟨h10,h11⟩:=hblk g (by simp[ZL,Nat.ne_of_gt hc])
  refine .inr ⟨g,cur,e,rfl,hc,by rw[h10,hw],h4,h5,h6,h7,?_,hFg,?_⟩
  ·cases fz
   ·simp at h8 ⊢;exact fun hi=>h8 (h11 hi)
   ·simp at h8 ⊢;exact hkeep.sub g h8
  ·cases ex
   ·exact h9.mono' hkeep h10
   ·simp only[if_true] at h9 ⊢
    exact h9.mono' ⟨fun b hb=>⟨hkeep.sub b hb.1,hb.2⟩,fun b hb=>hkeep.blk b hb.1⟩ h10
theorem UA.mono {I' : Nat→Prop} {w' : World} {ns:Nat} {y:D} {v:Value} (h:UA w I F A ns y v) (hkeep:ZY I I' w w') (hblk:∀ b,WD v=some b→w'.heap[b]?=w.heap[b]?∧(I' b→I b)):UA w' I' F A ns y v:=by
 cases y with
 | sl ys=>
  obtain⟨a,c,rfl,h2,h3⟩:=h
  refine⟨a,c,rfl,h2.mono hkeep fun b hb=>hblk b ?_,h3⟩
  cases a with
  | none=>simp[ZL] at hb
  | some ad=>simpa [WD,ZL] using hb
 | int k n=>exact⟨h.1,h.2.mono hkeep⟩
 | bool k=>exact⟨h.1,h.2.mono hkeep⟩
 | str k=>exact⟨h.1,h.2.mono hkeep⟩
 | agg cs=>exact absurd h.1 (by simp[D.plain])
theorem Zjc {w:World} {g p b:Nat} {v:Value} (hv:w.cell? ⟨g,p,none⟩=some v) (hb:WD v=some b):JK w g p=some b:=by
 unfold JK;rw[hv];exact hb
theorem Zd4.mono {a:Option Addr} {n c sz ns:Nat} {xs:List D} {I' : Nat→Prop} {w' : World} (h:Zd4 w I F A a n c sz ns xs) (hkeep:ZY I I' w w')
  (hown:∀ b,ZL (some (.row a n c sz))=some b→w'.heap[b]?=w.heap[b]?∧(I' b→I b))
  (hin:∀ g p b,ZL (some (.row a n c sz))=some g→p<xs.length*sz→JK w g p=some b→w'.heap[b]?=w.heap[b]?∧(I' b→I b)):Zd4 w' I' F A a n c sz ns xs:=by
 obtain⟨h2,h3⟩:=h
 refine⟨h2,?_⟩
 rcases h3 with h3 | ⟨g,cur,e,rfl,hc,hw,h4,h5,h6,hpos,h8,hFg,hel,hdis,hne⟩
 ·exact .inl h3
 ·have hbg:ZL (some (.row (some ⟨g,0,none⟩) n c sz))=some g:=by simp[ZL,Nat.ne_of_gt hc]
  obtain⟨h10,h11⟩:=hown g hbg
  have hnb:∀ p,JK w' g p=JK w g p:=fun p=>by unfold JK;rw[World.cell?_of_block (w:=w) (a:=⟨g,p,none⟩) h10]
  refine .inr ⟨g,cur,e,rfl,hc,by rw[h10,hw],h4,h5,h6,hpos,fun hi=>h8 (h11 hi),hFg,?_,fun p q b hp hq h1 h2=>hdis p q b hp hq (hnb p ▸ h1) (hnb q ▸ h2),fun p hp=>by rw[hnb];exact hne p hp⟩
  intro i x hx
  obtain⟨vs,v1,v2,v3⟩:=hel i x hx
  refine⟨vs,v1,v2.mono h10,ZB.of_get v3.length fun j y v hy hv=>?_⟩
  obtain⟨v',hv',hn⟩:=v3.get j y hy
  rw[hv] at hv';cases hv'
  refine hn.mono hkeep fun b hb=>hin g (i*sz+j) b hbg ?_ (Zjc (v2 j v hv) hb)
  have hi:i<xs.length:=(List.getElem?_eq_some_iff.1 hx).1
  have hj:j<sz:=by rw[← v1];exact(List.getElem?_eq_some_iff.1 hv).1
  have:=Nat.mul_le_mul_right sz (show i+1≤xs.length from hi)
  rw[Nat.add_mul] at this
  omega
theorem Zt0.mono {Γ' : Gh} {w' : World} {a:Option Addr} {sz:Nat} {xs:List D} {lk:Option (Nat×Nat×Nat)} (h:Zt0 Γ w a sz xs lk) (hk:Xt Γ Γ') (hblk:∀ g,a=some ⟨g,0,none⟩→w'.heap[g]?=w.heap[g]?):Zt0 Γ' w' a sz xs lk:=by
 cases lk with
 | none=>trivial
 | some q=>
  obtain⟨nm,i,j⟩:=q
  obtain⟨g,a',n',c',sz',h1,h2,h3,h4,h5⟩:=h
  exact⟨g,a',n',c',sz',h1,hk _ _ h2,h3,h4,by rw[World.cell?_of_block (w:=w) (a:=⟨g,i*sz+j,none⟩) (hblk g h1)];exact h5⟩
theorem UB.mono {Γ' : Gh} {I' : Nat→Prop} {w' : World} {id:Nat} {o:Zt} (ho:UB Γ w I F A id o) (hk:Xt Γ Γ') (hkeep:ZY I I' w w')
  (hblk:∀ b,Blk Γ w id o b→w'.heap[b]?=w.heap[b]?∧(I' b→I b)):UB Γ' w' I' F A id o:=by
 cases o with
 | deep sz ns xs lk=>
  obtain⟨ad,n,c,h1,h2,h3⟩:=ho
  refine⟨ad,n,c,hk _ _ h1,h2.mono hkeep (fun b hb=>hblk b (.inl (by rw[h1];exact hb))) fun g p b hg hp hb=>hblk b (.inr ⟨g,p,by rw[h1];exact hg,hp,hb⟩),?_⟩
  cases lk with
  | none=>trivial
  | some q=>
   refine h3.mono hk fun g hg=>(hblk g (.inl ?_)).1
   subst hg
   rw[h1]
   obtain⟨nm,i,j⟩:=q
   obtain⟨g',a',n',c',sz',h4,h5,h6,_⟩:=h3
   have hn:=h2.1
   rcases h2.2 with h7 | ⟨_,_,_,_,h7,_⟩
   ·omega
   ·simp[ZL,Nat.ne_of_gt h7]
 | box cs=>
  obtain⟨b,cur,e,h1,h2,h3,h4,h5⟩:=ho
  obtain⟨h6,h7⟩:=hblk b (.inl (by rw[h1];rfl))
  exact⟨b,cur,e,hk _ _ h1,by rw[h6,h2],fun hi=>h3 (h7 hi),h4,h5.mono fun _ _ h=>h.mono hk hkeep⟩
 | row sz xs ex fz=>
  obtain⟨ad,n,c,h1,h2,h3⟩:=ho
  refine⟨ad,n,c,hk _ _ h1,h2,?_⟩
  rcases h3 with h3 | ⟨g,cur,e,rfl,hc,hw,h4,h5,h6,h7,h8,hFg,h9⟩
  ·exact .inl h3
  ·obtain⟨h10,h11⟩:=hblk g (.inl (by rw[h1];simp[ZL,Nat.ne_of_gt hc]))
   refine .inr ⟨g,cur,e,rfl,hc,by rw[h10,hw],h4,h5,h6,h7,?_,hFg,?_⟩
   ·cases fz
    ·simp at h8 ⊢;exact fun hi=>h8 (h11 hi)
    ·simp at h8 ⊢;exact hkeep.sub g h8
   ·cases ex
    ·exact h9.mono' hkeep h10
    ·simp only[if_true] at h9 ⊢
     exact h9.mono' ⟨fun b hb=>⟨hkeep.sub b hb.1,hb.2⟩,fun b hb=>hkeep.blk b hb.1⟩ h10
theorem Sim.blk_lt (h:Sim nt F A I Γ U sl hp a w) {id:Nat} {o:Zt} (hl:lkp hp id=some o) {b:Nat} (hb:Blk Γ w id o b):b<w.heap.size:=by
 have ho:=h.objs id o hl
 rcases hb with hb | hb
 rotate_left
 ·exact(Zp8 ho hb).1
 cases o with
 | deep sz ns xs lk=>
  obtain⟨ad,n,c,h1,⟨_,h3⟩,_⟩:=ho
  rw[h1] at hb
  rcases h3 with h3 | ⟨g,cur,e,rfl,hc,hw,_⟩
  ·cases ad<;>simp[ZL,h3.2] at hb
  ·simp only[ZL,Nat.ne_of_gt hc,if_false] at hb;cases hb
   exact(Array.getElem?_eq_some_iff.1 hw).1
 | box cs=>
  obtain⟨b',cur,e,h1,h2,_⟩:=ho
  rw[h1] at hb;cases hb
  exact(Array.getElem?_eq_some_iff.1 h2).1
 | row sz xs ex fz=>
  obtain⟨ad,n,c,h1,h2,h3⟩:=ho
  rw[h1] at hb
  rcases h3 with h3 | ⟨g,cur,e,rfl,hc,hw,_⟩
  ·cases ad<;>simp[ZL,h3.2] at hb
  ·simp only[ZL,Nat.ne_of_gt hc,if_false] at hb;cases hb
   exact(Array.getElem?_eq_some_iff.1 hw).1
theorem ZjB {id:Nat} {o:Zt} (ho:UB Γ w I F A id o) {b:Nat} (hb:Blk Γ w id o b):F b:=by
 rcases hb with hb | hb
 rotate_left
 ·exact(Zp8 ho hb).2.2
 cases o with
 | box cs=>
  obtain⟨b',cur,e,h1,h2,h3,h4,_⟩:=ho
  rw[h1] at hb;cases hb
  exact h4
 | row sz xs ex fz=>
  obtain⟨ad,n,c,h1,h2,h3⟩:=ho
  rw[h1] at hb
  obtain⟨ad',rfl,rfl,hc⟩:=Zeb hb
  rcases h3 with h3 | ⟨g,cur,e,hg,h4,h5,h6,h7,h8,h9,h10,hFg,h11⟩
  ·exact absurd h3.2 hc
  ·cases hg;exact hFg
 | deep sz ns xs lk=>
  obtain⟨ad,n,c,h1,⟨h2,h3⟩,_⟩:=ho
  rw[h1] at hb
  obtain⟨ad',rfl,rfl,hc⟩:=Zeb hb
  rcases h3 with h3 | ⟨g,cur,e,hg,h4,h5,h6,h7,h8,h9,h10,hFg,h11⟩
  ·exact absurd h3.2 hc
  ·cases hg;exact hFg
theorem ZsY {S:Nat→Prop} {ns:Nat} {y:D} {v:Value} (h:UA w I F A ns y v) (hI:∀ b,I b→A b→S b) (hb:∀ b,WD v=some b→S b):y.one=true∧Z1 w S y [v]:=by
 cases y with
 | sl ys=>
  obtain⟨a,c,rfl,⟨_,h2⟩,h3⟩:=h
  refine⟨rfl,a,c,rfl,?_⟩
  rcases h2 with h2 | ⟨g,cur,e,rfl,hc,hw,h4,h5,h6,h7,h8,hFg,h9⟩
  ·exact⟨by omega,.inl (List.eq_nil_of_length_eq_zero h2.1)⟩
  ·refine⟨h4,.inr ⟨g,0,ns,rfl,hb g (by simp[WD,Nat.ne_of_gt hc]),h7,?_⟩⟩
   simp only[if_true] at h9
   exact h9.mono' ⟨fun b hb=>hI b hb.1 hb.2,fun _ _=>rfl⟩ rfl
 | int k n=>exact⟨rfl,by simpa [Z1] using h.2⟩
 | bool k=>exact⟨rfl,by simpa [Z1] using h.2⟩
 | str k=>exact⟨rfl,by simpa [Z1] using h.2⟩
 | agg cs=>exact absurd h.1 (by simp[D.plain])
theorem Ze2 {S:Nat→Prop} {x:D} {vs:List Value} (h:ZB (fun d v=>d.one=true∧Z1 w S d [v]) x.cells vs):Z1 w S x vs:=by
 have one:∀ {y:D},ZB (fun d v=>d.one=true∧Z1 w S d [v]) [y] vs→Z1 w S y vs:=by
  intro y h
  cases vs with
  | nil=>exact h.elim
  | cons v vs=>cases vs with
   | nil=>exact h.1.2
   | cons _ _=>exact h.2.elim
 cases x with
 | agg cs=>exact Ya.2 h
 | int k n=>exact one h
 | bool b=>exact one h
 | str b=>exact one h
 | sl b=>exact one h
theorem Zp9 {S:Nat→Prop} {g n c sz ns:Nat} {xs:List D} (hd:Zd4 w I F A (some ⟨g,0,none⟩) n c sz ns xs) (hI:∀ b,I b→A b→S b) (hin:∀ p b,p<xs.length*sz→JK w g p=some b→S b):Za0 w S g sz xs 0:=by
 rw[YN]
 intro i x hx
 obtain⟨g',vs,hg,h1,h2,h3⟩:=ZdC hd hx
 cases hg
 refine⟨vs,h1,by simpa using h2,Ze2 (ZB.of_get h3.length fun j y v hy hv=>?_)⟩
 obtain⟨v',hv',hn⟩:=h3.get j y hy
 rw[hv] at hv';cases hv'
 refine ZsY hn hI fun b hb=>hin (i*sz+j) b ?_ (Zjc (h2 j v hv) hb)
 have hi:i<xs.length:=(List.getElem?_eq_some_iff.1 hx).1
 have hj:j<sz:=by rw[← h1];exact(List.getElem?_eq_some_iff.1 hv).1
 have:=Nat.mul_le_mul_right sz (show i+1≤xs.length from hi)
 rw[Nat.add_mul] at this
 omega
theorem Sim.id_in (h:Sim nt F A I Γ U sl hp a w) {id:Nat} {o:Zt} (hl:lkp hp id=some o):U id:=by
 have ho:=h.objs id o hl
 by_cases hid:¬U id
 ·have hn:=h.names id hid
  cases o with
  | box cs=>obtain⟨b',cur,e,h1,_⟩:=ho;rw[hn] at h1;cases h1
  | row sz xs ex fz=>obtain⟨ad,n,c,h1,_⟩:=ho;rw[hn] at h1;cases h1
  | deep sz ns xs lk=>obtain⟨ad,n,c,h1,_⟩:=ho;rw[hn] at h1;cases h1
 ·exact Classical.not_not.1 hid
def upd (Γ:Gh) (id:Nat) (r:Ref):Gh:=fun k=>if k=id then some r else Γ k
theorem ZW (Γ:Gh) (id:Nat) (r:Ref):upd Γ id r id=some r:=by simp[upd]
theorem Qm (Γ:Gh) {id k:Nat} (r:Ref) (h:k≠id):upd Γ id r k=Γ k:=by simp[upd,h]
theorem Jk {Γ:Gh} {id:Nat} (r:Ref) (h:Γ id=none):Xt Γ (upd Γ id r):=fun k x hk=>by
 unfold upd
 split
 ·rename_i e;subst e;rw[h] at hk;cases hk
 ·exact hk
theorem Sim.add (h:Sim nt F A I Γ U sl hp a w) {U' : Nat→Prop} {adds:Hp} {Γ' : Gh} {w' : World} {v:AV} {u:Value} {dst:Option Nat}
  (hk:Xt Γ Γ') (hext:∀ k,k<w.heap.size→w'.heap[k]?=w.heap[k]?) (hsz:w.heap.size≤w'.heap.size) (hos:w'.os=w.os) (htape:w'.tape=w.tape) (hout:w'.output=w.output)
  (hobj:∀ k o,(k,o)∈adds→UB Γ' w' I F A k o)
  (hinj:∀ i j o o' b,(i,o)∈adds→(j,o')∈adds→Blk Γ' w' i o b→Blk Γ' w' j o' b→i=j)
  (hnew:∀ k o b,(k,o)∈adds→Blk Γ' w' k o b→w.heap.size≤b)
  (hbefore:∀ k,U k→Γ' k=Γ k)
  (hnames:∀ id,¬U' id→Γ' id=none) (hrep:Rep Γ' w' I v u) (hdst:XA nt dst=true) :
  JZ nt F A I Γ w U' (Zw sl dst v) (Zi hp adds) (a.put dst u) w':=by
 have hkeep:ZY I I w w':=⟨fun _ h=>h,fun b hI=>hext b (h.bound b hI)⟩
 have hold:∀ id o,lkp hp id=some o→Γ' id=Γ id:=fun id o hl=>hbefore id (h.id_in hl)
 have back:∀ id o b,lkp hp id=some o→Blk Γ' w' id o b→Blk Γ w id o b:=fun id o b hl hb=>hb.back (hold id o hl) fun g hg=>hext g (h.blk_lt hl (.inl hg))
 refine⟨I,Γ',fun id b hg=>hk _ _ hg,hkeep,fun _ h=>.inl h,⟨hos,htape,hout,hsz,fun k hk _=>hext k hk⟩,?_⟩
 refine h.next hk hkeep ?_ ?_ (fun b hI=>by have:=h.bound b hI;omega) hsz hnames hrep hdst
 ·intro id o hl
  rcases ZbW adds hp id o hl with hm | hm
  ·exact hobj id o hm
  ·exact(h.objs id o hm).mono hk hkeep fun b hb=>⟨hext b (h.blk_lt hm hb),fun h=>h⟩
 ·intro i j o o' b hi hj hbi hbj
  rcases ZbW adds hp i o hi with hi | hi<;>rcases ZbW adds hp j o' hj with hj | hj
  ·exact hinj i j o o' b hi hj hbi hbj
  ·have h1:=hnew i o b hi hbi
   have h2:=h.blk_lt hj (back j o' b hj hbj)
   omega
  ·have h1:=hnew j o' b hj hbj
   have h2:=h.blk_lt hi (back i o b hi hbi)
   omega
  ·exact h.inj i j o o' b hi hj (back i o b hi hbi) (back j o' b hj hbj)
theorem ZAp (w:World) (I F A:Nat→Prop) (hi:Nat):∀ (slc:List (Option Nat)) (cs:List AV) (vs:List Value) (b:Nat) (Γ:Gh),Q8 b hi (mat slc cs b).2=true→(∀ id,b≤id→id<hi→Γ id=none)→ZB (Vm Γ w I) cs vs →
  ∃ Γ',Xt Γ Γ'∧(∀ k,k<b∨hi≤k→Γ' k=Γ k)∧(∀ k o,(k,o)∈(mat slc cs b).2→b≤k∧UB Γ' w I F A k o∧ZL (Γ' k)=none)∧ZB (Vm Γ' w I) (mat slc cs b).1 vs:=by
 intro slc cs
 induction cs generalizing slc with
 | nil=>
  intro vs b Γ hok hn h
  have hm:mat slc [] b=([],[]):=by cases slc<;>simp[mat]<;>(rename_i x _;cases x<;>simp[mat])
  rw[hm]
  exact⟨Γ,Xt.refl Γ,fun _ _=>rfl,fun k o hko=>by simp at hko,h⟩
 | cons c cs ih=>
  intro vs b Γ hok hn h
  cases vs with
  | nil=>exact h.elim
  | cons v vs=>
   have skip:∀ slc',mat slc (c :: cs) b=(c :: (mat slc' cs b).1,(mat slc' cs b).2)→∃ Γ',Xt Γ Γ'∧(∀ k,k<b∨hi≤k→Γ' k=Γ k) ∧
     (∀ k o,(k,o)∈(mat slc (c :: cs) b).2→b≤k∧UB Γ' w I F A k o∧ZL (Γ' k)=none)∧ZB (Vm Γ' w I) (mat slc (c :: cs) b).1 (v :: vs):=by
    intro slc' he
    rw[he] at hok
    obtain⟨Γ',h1,h2,h3,h5⟩:=ih slc' vs b Γ hok hn h.2
    rw[he]
    exact⟨Γ',h1,h2,h3,h.1.mono h1 (ZY.refl I w),h5⟩
   cases slc with
   | nil=>
    have he:mat [] (c :: cs) b=(c :: cs,[]):=by cases c<;>simp[mat]
    rw[he]
    exact⟨Γ,Xt.refl Γ,fun _ _=>rfl,fun k o hko=>by simp at hko,h⟩
   | cons s slc=>
    by_cases hc:∃ s',s=some s'∧c=.nil
    ·obtain⟨s',rfl,rfl⟩:=hc
     obtain⟨ad,hv⟩:∃ ad,v=.slice ad 0 0:=h.1
     have he:mat (some s' :: slc) (.nil :: cs) b=(.own b :: (mat slc cs (b+1)).1,(b,.row s' [] true false) :: (mat slc cs (b+1)).2):=by simp[mat]
     rw[he] at hok
     simp only[Q8,Bool.and_eq_true,decide_eq_true_eq] at hok
     have hn' : ∀ id,b+1≤id→id<hi→upd Γ b (.row ad 0 0 s') id=none:=fun id hid hlt=>by rw[Qm _ _ (by omega)];exact hn id (by omega) hlt
     have hk:=Jk (.row ad 0 0 s') (hn b (Nat.le_refl b) hok.1.2)
     obtain⟨Γ',h1,h2,h3,h5⟩:=ih slc vs (b+1) (upd Γ b (.row ad 0 0 s')) hok.2 hn' (h.2.mono fun _ _ h=>h.mono hk (ZY.refl I w))
     have hb:Γ' b=some (.row ad 0 0 s'):=h1 _ _ (ZW _ _ _)
     rw[he]
     refine⟨Γ',fun id r hr=>h1 _ _ (hk _ _ hr),fun k hk'=>by rw[h2 k (by omega),Qm _ _ (by omega)],?_,⟨ad,0,0,s',hb,hv⟩,h5⟩
     intro k o hko
     rcases List.mem_cons.1 hko with hko | hko
     ·cases hko
      exact⟨Nat.le_refl _,⟨ad,0,0,hb,rfl,.inl ⟨rfl,rfl⟩⟩,by rw[hb];cases ad<;>simp[ZL]⟩
     ·obtain⟨h6,h7⟩:=h3 k o hko
      exact⟨by omega,h7⟩
    ·refine skip slc ?_
     cases s with
     | none=>cases c<;>simp[mat]
     | some s'=>cases c<;>first | (exact absurd ⟨s',rfl,rfl⟩ hc) | simp[mat]
end
end Go.Abs
