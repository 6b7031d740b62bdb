/- Own text. -/
import Derived.Test.YtefabmohhbhlfaaAbsPure
set_option linter.unusedVariables false
set_option linter.unusedSimpArgs false
namespace Go.Abs
open Go
theorem ZW {α:Type}:∀ (l:List (Nat×α)) (t:Nat) (v:α) (t' : Nat),lkp (ins l t v) t'=if t=t' then some v else lkp l t'
 | [],t,v,t'=>by simp[ins,lkp]
 | (k,x) :: r,t,v,t'=>by
  simp only[ins];split
  ·simp[lkp]
  ·split
   ·rename_i h;subst h;by_cases ht:k=t' <;> simp[lkp,ht]
   ·rename_i h;simp only[lkp,ZW r t v t'];by_cases hk:k=t'
    ·subst hk;simp[Ne.symm h]
    ·simp[hk]
theorem ZaL:∀ (l:Hp) (t t' : Nat),lkp (del l t) t'=if t=t' then none else lkp l t'
 | [],t,t'=>by simp[del,lkp]
 | (k,x) :: r,t,t'=>by
  simp only[del];split
  ·rename_i h;subst h;rw[ZaL r k t'];by_cases ht:k=t' <;> simp[lkp,ht]
  ·rename_i h;simp only[lkp,ZaL r t t'];by_cases hk:k=t'
   ·subst hk;simp[Ne.symm h]
   ·simp[hk]
theorem YO:∀ (ds:List Nat) (l:Hp) (id:Nat) (o:Zh),lkp (ZP l ds) id=some o→lkp l id=some o∧id∉ds
 | [],l,id,o,h=>⟨h,by simp⟩
 | d :: ds,l,id,o,h=>by
  obtain⟨h1,h2⟩:=YO ds (del l d) id o h;rw[ZaL] at h1;split at h1
  ·cases h1
  ·rename_i hd;exact⟨h1,by simp only[Kf,not_or];exact⟨fun e=>hd e.symm,h2⟩⟩
theorem WG:∀ (l:Hp) (hp:Hp) (id:Nat) (o:Zh),lkp (Zd hp l) id=some o→(id,o)∈l∨lkp hp id=some o
 | [],hp,id,o,h=>.inr h
 | (k,x) :: r,hp,id,o,h=>by
  rcases WG r (ins hp k x) id o h with h1 | h1
  ·exact .inl (Kt _ h1)
  ·rw[ZW] at h1;split at h1
   ·rename_i hk;subst hk;cases h1;exact .inl (K9 ..)
   ·exact .inr h1
theorem ZhC (ids:List Nat):∀ (l:Hp) (id:Nat),lkp (freeze ids l) id=(lkp l id).map fun o=>if ids.contains id then XW o else o
 | [],id=>by simp[freeze,lkp]
 | (k,x) :: r,id=>by
  simp only[freeze,lkp,ZhC ids r id];by_cases hk:k=id
  ·subst hk;simp
  ·simp[hk]
theorem ZU (ids:List Nat) (l:Hp) (id:Nat):lkp (Z2 ids l) id=(lkp l id).map fun o=>if ids.contains id then XW o else o:=by
 unfold Z2;split
 ·simp
 ·exact ZhC _ l id
theorem Zbw {α β:Type} (f:α→β):∀ (l:List (Nat×α)) (t:Nat),lkp (Zee f l) t=(lkp l t).map f
 | [],t=>by simp[Zee,lkp]
 | (k,x) :: r,t=>by
  simp only[Zee,lkp,Zbw f r t];by_cases hk:k=t<;>simp[hk]
theorem Z9 (sl:Sl) (dst:Option Nat) (v:AV) (t:Nat):gs (Zi sl dst v) t=if dst=some t then v else gs sl t:=by
 cases dst with
 | none=>simp[Zi]
 | some d=>
  simp only[Zi,gs,ZW,Option.some.injEq];by_cases h:d=t<;>simp[h,UD]
theorem VL:∀ {l:Hp} {lo hi:Nat},Qr lo hi l=true→∀ k o,(k,o)∈l→lo≤k∧k<hi
 | [],_,_,_,k,o,h=>by simp at h
 | (k',o') :: r,lo,hi,h,k,o,hm=>by
  simp only[Qr,Kb,Kl] at h;rcases Kf.1 hm with hm | hm
  ·cases hm;exact⟨h.1.1,h.1.2⟩
  ·have:=VL h.2 k o hm;exact⟨by omega,this.2⟩
def X9 (nt:Nat) (F A I:Nat→Prop) (Γ:Gh) (w:World) (U' : Nat→Prop) (sl' : Sl) (hp' : Hp) (a' : Act) (w' : World):Prop:=
 ∃ I' Γ',ZY Γ Γ'∧ZB I I' w w'∧(∀ b,I' b→I b∨F b)∧Fr F w w'∧Sim nt F A I' Γ' U' sl' hp' a' w'
theorem ZB.refl (I:Nat→Prop) (w:World):ZB I I w w:=⟨fun _ h=>h,fun _ _=>rfl⟩
theorem ZB.trans {I I' aa : Nat→Prop} {w w' ab : World} (h:ZB I I' w w') (k:ZB I' aa w' ab):ZB I aa w ab :=
 ⟨fun b hb=>k.sub b (h.sub b hb),fun b hb=>(k.blk b (h.sub b hb)).trans (h.blk b hb)⟩
theorem ZY.refl (Γ:Gh):ZY Γ Γ:=fun _ _ h=>h
theorem Zmq (a:Act) (dst:Option Tmp) (u:Value):(a.put dst u).tmps.size=a.tmps.size:=by
 cases dst<;>simp[Act.put]
theorem ZhD (a:Act) (dst:Option Tmp) (u:Value):(a.put dst u).defers=a.defers:=by
 cases dst<;>simp[Act.put]
theorem ZoK {a:Act} {nt:Nat} (hn:a.tmps.size=nt) {dst:Option Tmp} (hd:Qm nt dst=true) (u:Value) (t:Nat):(a.put dst u).tmps.getD t undef=if dst=some t then u else a.tmps.getD t undef:=by
 cases dst with
 | none=>simp[Act.put]
 | some d=>
  simp only[Qm,Kl] at hd;by_cases h:d=t
  ·subst h;simp[Act.put,hn,hd]
  ·simp[Act.put,h]
section
variable {P:Program} {nt:Nat} {U:Nat→Prop} {F A I:Nat→Prop} {Γ:Gh} {sl:Sl} {hp:Hp} {a:Act} {w:World}
theorem Sim.slOK (h:Sim nt F A I Γ U sl hp a w):Up Γ w I sl a:=h.slots
theorem Sim.hpOK (h:Sim nt F A I Γ U sl hp a w):Wz Γ w I F A hp:=h.objs
theorem Sim.more (h:Sim nt F A I Γ U sl hp a w) {U' : Nat→Prop} (hn:∀ id,U id→U' id):Sim nt F A I Γ U' sl hp a w:=
 { h with names:=fun id aa=>h.names id fun hu=>aa (hn id hu) }
theorem Sim.next (h:Sim nt F A I Γ U sl hp a w) {I' : Nat→Prop} {Γ' : Gh} {w' : World} {hp' : Hp} {v:AV} {u:Value} {dst:Option Nat} {U' : Nat→Prop}
  (hk:ZY Γ Γ') (aa:ZB I I' w w') (ae:Wz Γ' w' I' F A hp')
  (af:∀ i j o o' b,lkp hp' i=some o→lkp hp' j=some o'→Blk Γ' w' i o b→Blk Γ' w' j o' b→i=j)
  (ab:∀ b,I' b→b<w'.heap.size) (ai:w.heap.size≤w'.heap.size) (ad:∀ id,¬U' id→Γ' id=none) (ag:Rep Γ' w' I' v u) (ah:Qm nt dst=true) :
  Sim nt F A I' Γ' U' (Zi sl dst v) hp' (a.put dst u) w' where
 nt:=by rw[Zmq];exact h.nt
 dfr:=by rw[ZhD];exact h.dfr
 slots:=fun t=>by
  rw[Z9,ZoK h.nt ah];split
  ·exact ag
  ·exact(h.slots t).mono hk aa
 objs:=ae
 inj:=af
 bound:=ab
 fresh:=fun b hb=>h.fresh b (by omega)
 own:=h.own
 names:=ad
 glob:=h.glob.mono aa
theorem Sim.pure (h:Sim nt F A I Γ U sl hp a w) {v:AV} {u:Value} {dst:Option Nat} {U' : Nat→Prop} (hn:∀ id,U id→U' id) (aa:Rep Γ w I v u) (ab:Qm nt dst=true) :
  X9 nt F A I Γ w U' (Zi sl dst v) hp (a.put dst u) w:=
 ⟨I,Γ,ZY.refl Γ,ZB.refl I w,fun _ h=>.inl h,Fr.refl F w,h.next (ZY.refl Γ) (ZB.refl I w) h.objs h.inj h.bound (Kh _) (fun id ad=>h.names id fun hu=>ad (hn id hu)) aa ab⟩
theorem U1 {a:Option Addr} {n c sz b:Nat} (h:Zp (some (.row a n c sz))=some b):∃ ad,a=some ad∧ad.block=b∧c≠0:=by
 cases a with
 | none=>simp[Zp] at h
 | some ad=>
  simp only[Zp] at h;split at h
  ·cases h
  ·cases h;exact⟨ad,rfl,rfl,by assumption⟩
theorem row_blk {a:Option Addr} {n c sz b:Nat} {xs:List D} {ex:Bool} (h:Zdx w I F A a n c sz xs ex false) (hb:Zp (some (.row a n c sz))=some b):b<w.heap.size∧¬I b∧F b:=by
 obtain⟨ad,rfl,rfl,hc⟩:=U1 hb;rcases h.2 with h3 | ⟨g,q0,cur,e,hg,h4,hw,h6,h7,h8,h9,aa,ab,ae⟩
 ·exact absurd h3.2 hc
 ·cases hg;exact⟨(KF.1 hw).1,by simpa using aa,ab⟩
theorem Zr7 {a:Option Addr} {n c sz ns g b:Nat} {xs:List D} {B:List Nat} {hl:Option Nat} (h:ZcQ w I F a n c sz ns xs hl) (hg:Zp (some (.row a n c sz))=some g) (hB:ZK (VH w g hl) ns B g sz xs 0) :
  (g :: B).Nodup∧(b∈g :: B→b<w.heap.size∧¬I b∧F b):=by
 obtain⟨ad,rfl,rfl,hc⟩:=U1 hg;rcases h.2 with h3 | ⟨g',cur,e,B',ab,h4,hw,h6,h7,h8,h9,aa,ae,af⟩
 ·exact absurd h3.2.1 hc
 ·cases ab;cases ZK.uniq hB aa;refine⟨ae,fun hb=>⟨?_,af b hb⟩⟩;rcases Kf.1 hb with rfl | hb
  ·exact(KF.1 hw).1
  ·have:=aa.lt b hb;rwa [Znu] at this
theorem Zmr {id:Nat} {o:Zh} (ho:XF Γ w I F A id o) {b:Nat} (hb:Za0 Γ w id o b):b<w.heap.size∧¬I b∧F b:=by
 cases o with
 | tree sz ns xs lk=>
  obtain⟨g,B,h1,h2,h3⟩:=hb;obtain⟨a,n,c,h4,h5,_⟩:=ho;rw[h4] at h1;exact(Zr7 h5 h1 h2).2 (by simp[h3])
 | _=>exact hb.elim
theorem Za0.back {Γ' : Gh} {w' : World} {id:Nat} {o:Zh} {b:Nat} (ho:XF Γ w I F A id o) (h:Za0 Γ' w' id o b) (hg:Γ' id=Γ id) (hw:∀ g,Zp (Γ id)=some g∨Za0 Γ w id o g→w'.heap[g]?=w.heap[g]?):Za0 Γ w id o b:=by
 cases o with
 | box cs=>exact h.elim
 | row sz xs ex fz=>exact h.elim
 | gone=>exact h.elim
 | tree sz ns xs lk=>
  obtain⟨g,B,h1,h2,h3⟩:=h;obtain⟨a,n,c,h4,h5,_⟩:=ho;rw[hg] at h1;refine⟨g,B,h1,?_,h3⟩;have ab:=h1;rw[h4] at ab;obtain⟨ad,rfl,rfl,hc⟩:=U1 ab;rcases h5.2 with h6 | ⟨g',cur,e,B',ae,_,_,_,_,_,_,aa,_⟩
  ·exact absurd h6.2.1 hc
  ·cases ae;have:=aa.mono (Zaw (X0 sz lk) (hw _ (.inl h1))) fun b hb=>Zaw (X0 sz lk) (hw b (.inr ⟨_,B',h1,aa,hb⟩));cases ZK.uniq h2 this;exact aa
theorem Buf.is {id:Nat} {o:Zh} {b:Nat} (h:Buf Γ w id o b):∃ x te l g,o=.box [x,.bbuf te l]∧Zp (Γ id)=some g∧Zdy w g 1=some b:=by
 unfold Buf at h;split at h
 ·obtain⟨g,h1,h2⟩:=h;exact⟨_,_,_,g,rfl,h1,h2⟩
 ·exact h.elim
theorem Buf.back {Γ' : Gh} {w' : World} {id:Nat} {o:Zh} {b:Nat} (h:Buf Γ' w' id o b) (hg:Γ' id=Γ id) (hw:∀ g,Zp (Γ id)=some g→w'.heap[g]?=w.heap[g]?):Buf Γ w id o b:=by
 obtain⟨x,te,l,g,rfl,h1,h2⟩:=h.is;rw[hg] at h1;refine⟨g,h1,?_⟩;unfold Zdy at h2 ⊢
 rwa [World.cell?_of_block (w:=w) (a:=⟨g,1,none⟩) (hw g h1)] at h2
theorem ZqZ {id:Nat} {o:Zh} (ho:XF Γ w I F A id o) {b:Nat} (hb:Buf Γ w id o b):b<w.heap.size∧¬I b∧F b∧Zp (Γ id)≠some b:=by
 obtain⟨x,te,l,g,rfl,h1,h2⟩:=hb.is;obtain⟨b',cur,e,g1,g2,g3,g4,g5,g6⟩:=ho;rw[g1] at h1;cases h1
 match hc:cur.toList,g5,g6 with
 | [u,v],g5,g6=>
  have aa:w.cell? ⟨b',1,none⟩=some v:=by
   have:cur[1]?=some v:=by rw[← LI,hc];rfl
   simp[World.cell?,g2,this]
  rcases g6 with ⟨_,rfl⟩ | ⟨g,ab,ad,rfl,k1,k2,k3,k4,k5,k6,k7,k8,k9⟩
  ·unfold Zdy at h2;rw[show ((b',e).1:Nat)=b' from rfl,aa] at h2;simp[Zmf] at h2
  have hv:w.cell? ⟨b',1,none⟩=some (.slice (some ⟨g,0,none⟩) l.length ab):=by
   have:cur[1]?=some (.slice (some ⟨g,0,none⟩) l.length ab):=by rw[← LI,hc];rfl
   simp[World.cell?,g2,this]
  unfold Zdy at h2;rw[show ((b',e).1:Nat)=b' from rfl,hv] at h2;simp only[Zmf,Ku (Kac k1 k3),Ki,Option.some.injEq] at h2;subst h2;refine⟨(KF.1 k2).1,k7,k8,?_⟩;rw[g1];intro e;cases e;exact k9 rfl
 | [],g5,_=>exact g5.elim
 | [_],g5,_=>exact g5.2.elim
 | _ :: _ :: _ :: _,g5,_=>exact g5.2.2.elim
theorem Blk.back {Γ' : Gh} {w' : World} {id:Nat} {o:Zh} {b:Nat} (ho:XF Γ w I F A id o) (h:Blk Γ' w' id o b) (hg:Γ' id=Γ id) (hw:∀ g,Blk Γ w id o g→w'.heap[g]?=w.heap[g]?):Blk Γ w id o b:=by
 rcases h with h | h | h
 ·exact .inl (hg ▸ h)
 ·exact .inr (.inl (h.back ho hg fun g hg=>hw g (hg.elim (fun aa=>.inl (by cases o<;>first | (simpa using aa) | exact h.elim)) fun h=>.inr (.inl h))))
 ·exact .inr (.inr (h.back hg fun g hg=>hw g (.inl (by obtain⟨_,_,_,_,rfl,_⟩:=h.is;exact hg))))
theorem Zb6 {o:Zh} {r:Option Ref} {b:Nat} (h:Za3 r o=some b):Zp r=some b:=by
 cases o<;>first | exact h | cases h
theorem Blk.nil {id:Nat} {o:Zh} {b:Nat} (h:Blk Γ w id o b) (h0:Zp (Γ id)=none):False:=by
 rcases h with h | h | h
 rotate_right
 ·obtain⟨x,te,l,g,rfl,h1,h2⟩:=h.is;rw[h0] at h1;cases h1
 ·have:=Zb6 h;rw[h0] at this;cases this
 ·cases o with
  | box cs=>exact h
  | row sz xs ex fz=>exact h
  | gone=>exact h
  | tree sz ns xs lk=>obtain⟨g,p,h1,_⟩:=h;rw[h0] at h1;cases h1
theorem Blk.isGone {id:Nat} {b:Nat} (h:Blk Γ w id .gone b):False:=by
 rcases h with h | h | h
 ·cases h
 ·exact h
 ·exact h
theorem Blk.box {id:Nat} {cs:List AV} {b:Nat} (hn:QU cs=true) (h:Blk Γ w id (.box cs) b):Zp (Γ id)=some b:=by
 rcases h with h | h | h
 ·exact h
 ·exact h.elim
 ·obtain⟨x,te,l,g,h1,_⟩:=h.is;cases h1;cases x<;>cases hn
theorem Blk.row {id sz:Nat} {xs:List D} {ex fz:Bool} {b:Nat} (h:Blk Γ w id (.row sz xs ex fz) b):Zp (Γ id)=some b:=h.elim (fun h=>h) fun h=>h.elim False.elim False.elim
theorem Zdx.mono {a:Option Addr} {n c sz:Nat} {xs:List D} {ex fz:Bool} {I' : Nat→Prop} {w' : World} (h:Zdx w I F A a n c sz xs ex fz) (aa:ZB I I' w w')
  (ab:∀ b,Zp (some (.row a n c sz))=some b→w'.heap[b]?=w.heap[b]?∧(I' b→I b)):Zdx w' I' F A a n c sz xs ex fz:=by
 obtain⟨h2,h3⟩:=h;refine⟨h2,?_⟩;rcases h3 with h3 | ⟨g,q0,cur,e,rfl,hc,hw,h4,h5,h6,h7,h8,ae,h9⟩
 ·exact .inl h3
 ·obtain⟨ad,af⟩:=ab g (by simp[Zp,Ku hc]);refine .inr ⟨g,q0,cur,e,rfl,hc,by rw[ad,hw],h4,h5,h6,h7,?_,ae,?_⟩
  ·cases fz
   ·simp at h8 ⊢;exact fun hi=>h8 (af hi)
   ·simp at h8 ⊢;exact aa.sub g h8
  ·cases ex
   ·exact h9.mono' aa ad
   ·simp only[Kk] at h9 ⊢;exact h9.mono' ⟨fun b hb=>⟨aa.sub b hb.1,hb.2⟩,fun b hb=>aa.blk b hb.1⟩ ad
theorem nestB_get {w:World} {g p b:Nat} {v:Value} (hv:w.cell? ⟨g,p,none⟩=some v) (hb:Zmf v=some b):Zdy w g p=some b:=by
 unfold Zdy;rw[hv];exact hb
theorem Xl.mono {Γ' : Gh} {w' : World} {a:Option Addr} {sz ns:Nat} {xs:List D} {lk:Option (Option Nat×Nat×Nat)} (h:Xl Γ w a sz ns xs lk) (hk:ZY Γ Γ') (aa:∀ g,a=some ⟨g,0,none⟩→w'.heap[g]?=w.heap[g]?):Xl Γ' w' a sz ns xs lk:=by
 cases lk with
 | none=>trivial
 | some q=>
  obtain⟨nm,i,j⟩:=q;obtain⟨h1,h2,h3,h4⟩:=h;refine⟨h1,h2,h3,fun k ab=>?_⟩;obtain⟨g,a',n',c',h5,h6,h7⟩:=h4 k ab;exact⟨g,a',n',c',h5,hk _ _ h6,by rw[World.cell?_of_block (w:=w) (a:=⟨g,i*sz+j,none⟩) (aa g h5)];exact h7⟩
theorem Xl.lose {Γ' : Gh} {a:Option Addr} {sz ns:Nat} {xs:List D} {lk:Option (Option Nat×Nat×Nat)} (h:Xl Γ w a sz ns xs lk):Xl Γ' w a sz ns xs (Zgj lk):=by
 cases lk with
 | none=>trivial
 | some q=>
  obtain⟨nm,i,j⟩:=q;exact⟨h.1,h.2.1,h.2.2.1,fun k hk=>by cases hk⟩
theorem VM {sz:Nat} (lk:Option (Option Nat×Nat×Nat)):X0 sz (Zgj lk)=X0 sz lk:=by cases lk<;>rfl
theorem Xl.kill {Γ' : Gh} {w' : World} {bad:List Nat} {a:Option Addr} {sz ns:Nat} {xs:List D} {lk:Option (Option Nat×Nat×Nat)} (h:Xl Γ w a sz ns xs lk) (hk:∀ k,k∉bad→∀ r,Γ k=some r→Γ' k=some r) (ab:∀ g,a=some ⟨g,0,none⟩→w'.heap[g]?=w.heap[g]?):Xl Γ' w' a sz ns xs (YC bad lk):=by
 cases lk with
 | none=>trivial
 | some q=>
  obtain⟨nm,i,j⟩:=q;obtain⟨h1,h2,h3,h4⟩:=h;cases nm with
  | none=>exact⟨h1,h2,h3,fun k aa=>by cases aa⟩
  | some k=>
   simp only[YC];split
   ·exact⟨h1,h2,h3,fun k aa=>by cases aa⟩
   ·rename_i hb;obtain⟨g,a',n',c',h5,h6,h7⟩:=h4 k rfl;refine⟨h1,h2,h3,fun k' aa=>?_⟩;cases aa;exact⟨g,a',n',c',h5,hk _ (by simpa using hb) _ h6,by rw[World.cell?_of_block (w:=w) (a:=⟨g,i*sz+j,none⟩) (ab g h5)];exact h7⟩
theorem VN {sz:Nat} (bad:List Nat) (lk:Option (Option Nat×Nat×Nat)):X0 sz (YC bad lk)=X0 sz lk:=by
 unfold YC;split
 ·split<;>rfl
 ·rfl
theorem Jq.mono {b:Nat} {cs:List AV} {vs:List Value} {w' : World} {I' F' : Nat→Prop} (h:Jq w I F b cs vs)
  (hh:∀ x te l u v g,cs=[x,.bbuf te l]→vs=[u,v]→Zmf v=some g→w'.heap[g]?=w.heap[g]?∧(I' g→I g)∧(F g→F' g)):Jq w' I' F' b cs vs:=by
 unfold Jq at h;split at h
 ·rcases h with h | ⟨g,ab,aa,h1,k1,k2,k3,k4,k5,k6,k7,k8,k9⟩
  ·exact .inl h
  obtain⟨m1,m2,m3⟩:=hh _ _ _ _ _ g rfl rfl (by rw[h1];simp[Zmf,Ku (Kac k1 k3)]);exact .inr ⟨g,ab,aa,h1,k1,by rw[m1];exact k2,k3,k4,k5,k6,fun hi=>k7 (m2 hi),m3 k8,k9⟩
 ·unfold Jq;split
  ·rename_i x te l u v _;cases x<;>cases h
  ·exact h
theorem ZnN {id b:Nat} {cur:Array Value} {e:TypeId} {cs:List AV} {x:AV} {te:Nat} {l:List UInt8} {u v:Value} {g:Nat} (h1:Γ id=some (.box (b,e))) (h2:w.heap[b]?=some (.cells cur e (0,0)))
  (hc:cs=[x,.bbuf te l]) (hv:cur.toList=[u,v]) (hg:Zmf v=some g):Buf Γ w id (.box cs) g:=by
 subst hc;refine⟨b,by rw[h1];rfl,?_⟩;have:cur[1]?=some v:=by rw[← LI,hv];rfl
 unfold Zdy;have aa:w.cell? ⟨b,1,none⟩=some v:=by simp[World.cell?,h2,this]
 rw[aa];exact hg
theorem ZjT {f:AV→AV} (hf:∀ v te l,f v=.bbuf te l↔v=.bbuf te l):∀ {cs:List AV},QU (cs.map f)=QU cs
 | []=>rfl
 | c :: cs=>by
  have ih:=ZjT hf (cs:=cs);by_cases h:∃ te l,c=.bbuf te l
  ·obtain⟨te,l,rfl⟩:=h;rw[Kq,(hf _ te l).2 rfl];rfl
  ·have e:∀ (v:AV) (r:List AV),(¬∃ te l,v=.bbuf te l)→QU (v :: r)=QU r:=fun v r hv=>by
    cases v<;>first | rfl | exact absurd ⟨_,_,rfl⟩ hv
   rw[Kq,e _ _ h,e _ _ (fun ⟨te,l,hh⟩=>h ⟨te,l,(hf _ _ _).1 hh⟩),ih]
theorem Jq.map {b:Nat} {cs:List AV} {vs:List Value} {f:AV→AV} (hf:∀ v te l,f v=.bbuf te l↔v=.bbuf te l) (h:Jq w I F b cs vs):Jq w I F b (cs.map f) vs:=by
 unfold Jq at h;split at h
 ·rename_i x te l u v;rw[Kq,Kq,(hf _ te l).2 rfl];exact h
 ·rename_i hn;have h' : QU (cs.map f)=true:=by rw[ZjT hf];exact h
  unfold Jq;split
  ·rename_i x te l u v aa;rw[aa] at h';cases x<;>cases h'
  ·exact h'
theorem ZaM {b:Nat} {cs:List AV} {vs:List Value} (h:QU cs=true):Jq w I F b cs vs:=by
 unfold Jq;split
 ·rename_i x te l u v;cases x<;>cases h
 ·exact h
theorem Zb7:∀ (slc:List (Option Nat)) (cs:List AV) (b:Nat),QU (mat slc cs b).1=QU cs:=by
 intro slc
 induction slc with
 | nil=>intro cs b;cases cs<;>rfl
 | cons s ts ih=>
  intro cs b;cases cs with
  | nil=>cases s<;>rfl
  | cons v vs=>
   cases s with
   | none=>cases v<;>simp only[mat,QU,ih]
   | some s=>cases v<;>simp only[mat,QU,ih]
theorem ZeM:∀ {cs:List AV},QU cs=true↔∀ te l,AV.bbuf te l∉cs
 | []=>by simp[QU]
 | c :: cs=>by
  by_cases h:∃ te l,c=.bbuf te l
  ·obtain⟨te,l,rfl⟩:=h;simp only[QU,Ka,false_iff];exact fun hh=>hh te l (K9 ..)
  ·have e:QU (c :: cs)=QU cs:=by cases c<;>first | rfl | exact absurd ⟨_,_,rfl⟩ h
   rw[e,ZeM];refine forall_congr' fun te=>forall_congr' fun l=>not_congr ?_;rw[Kf];exact⟨.inr,fun hh=>hh.elim (fun hh=>absurd ⟨te,l,hh.symm⟩ h) fun hh=>hh⟩
theorem Uv {cs vs:List AV} {off:Nat} (h1:QU cs=true) (h2:QU vs=true):QU (Zn cs off vs)=true:=by
 rw[ZeM] at h1 h2 ⊢;intro te l hm;unfold Zn at hm;rcases Kd.1 hm with hm | hm
 ·rcases Kd.1 hm with hm | hm
  ·exact h1 te l (LK hm)
  ·exact h2 te l hm
 ·exact h1 te l (L1 hm)
theorem W4:∀ {vs:List AV},QP vs=true→QU vs=true
 | [],_=>rfl
 | v :: vs,h=>by
  simp only[QP,Kb] at h;have:=W4 h.2;cases v<;>first | exact this | (cases h.1)
theorem Zms {id:Nat} {cs:List AV} {b:Nat} (hn:QU cs=true) (h:Buf Γ w id (.box cs) b):False:=by
 obtain⟨x,te,l,g,h1,_⟩:=h.is;cases h1;cases x<;>cases hn
theorem VC (g:List Nat) (v:AV) (te:Nat) (l:List UInt8):ZF g v=.bbuf te l↔v=.bbuf te l:=by
 constructor
 ·intro h;cases v<;>simp only[ZF,ZT] at h<;>first | exact h | (cases h;done) | (split at h<;>cases h)
 ·rintro rfl;rfl
theorem UB (g:Nat→Nat) (v:AV) (te:Nat) (l:List UInt8):JR g v=.bbuf te l↔v=.bbuf te l:=by
 constructor
 ·intro h;cases v<;>simp only[JR,Zaf] at h<;>first | exact h | (cases h;done)
 ·rintro rfl;rfl
theorem Buf.unmap {id:Nat} {cs:List AV} {f:AV→AV} (hf:∀ v te l,f v=.bbuf te l↔v=.bbuf te l) {b:Nat} (h:Buf Γ w id (.box (cs.map f)) b):Buf Γ w id (.box cs) b:=by
 obtain⟨x,te,l,g,h1,h2,h3⟩:=h.is
 match cs,h1 with
 | [],h1=>cases h1
 | [_],h1=>simp at h1
 | _ :: _ :: _ :: _,h1=>simp at h1
 | [y,z],h1=>
  simp only[Kq,Lv,Zh.box.injEq,List.cons.injEq,and_true] at h1;rw[(hf _ _ _).1 h1.2];exact⟨g,h2,h3⟩
theorem Buf.ren {Γ' : Gh} {id aa : Nat} {o:Zh} {b:Nat} (h:Buf Γ w id o b) (hg:Γ' aa=Γ id):Buf Γ' w aa o b:=by
 obtain⟨x,te,l,g,rfl,h2,h3⟩:=h.is;exact⟨g,by rw[hg];exact h2,h3⟩
theorem ZcQ.mono {I' F' : Nat→Prop} {w' : World} {a:Option Addr} {n c sz ns:Nat} {xs:List D} {hl:Option Nat} (h:ZcQ w I F a n c sz ns xs hl)
  (hb:∀ b,(Zp (some (.row a n c sz))=some b∨∃ g B,Zp (some (.row a n c sz))=some g∧ZK (VH w g hl) ns B g sz xs 0∧b∈B)→w'.heap[b]?=w.heap[b]?∧(I' b→I b)∧(F b→F' b)):ZcQ w' I' F' a n c sz ns xs hl:=by
 refine⟨h.1,?_⟩;rcases h.2 with h3 | ⟨g,cur,e,B,rfl,h4,hw,h6,h7,h8,h9,ab,af,ad⟩
 ·exact .inl h3
 ·have hg:Zp (some (.row (some ⟨g,0,none⟩) n c sz))=some g:=by simp[Zp,Ku h4]
  have aa:∀ b∈g :: B,w'.heap[b]?=w.heap[b]?∧(I' b→I b)∧(F b→F' b):=fun b hm=>by
   rcases Kf.1 hm with rfl | hm
   ·exact hb _ (.inl hg)
   ·exact hb b (.inr ⟨g,B,hg,ab,hm⟩)
  have ae:=aa g (by simp);exact .inr ⟨g,cur,e,B,rfl,h4,ae.1.trans hw,h6,h7,h8,h9,ab.mono (Zaw hl ae.1) fun b hm=>Zaw hl (aa b (by simp[hm])).1,af,fun b hm=>⟨fun hi=>(ad b hm).1 ((aa b hm).2.1 hi),(aa b hm).2.2 (ad b hm).2⟩⟩
theorem Xl.blk {a:Option Addr} {n c sz ns:Nat} {xs:List D} {lk:Option (Option Nat×Nat×Nat)} (h:ZcQ w I F a n c sz ns xs (X0 sz lk)) (hl:lk≠none) {g:Nat} (hg:a=some ⟨g,0,none⟩):Zp (some (.row a n c sz))=some g:=by
 subst hg;rcases h.2 with h7 | ⟨_,_,_,_,_,h7,_⟩
 ·cases lk with
  | none=>exact absurd rfl hl
  | some q=>obtain⟨_,_,h8⟩:=h7;cases h8
 ·simp[Zp,Ku h7]
theorem XF.mono {Γ' : Gh} {I' : Nat→Prop} {w' : World} {id:Nat} {o:Zh} (ho:XF Γ w I F A id o) (hk:ZY Γ Γ') (aa:ZB I I' w w')
  (ab:∀ b,Blk Γ w id o b→w'.heap[b]?=w.heap[b]?∧(I' b→I b)):XF Γ' w' I' F A id o:=by
 cases o with
 | gone=>
  obtain⟨r,hr⟩:=ho;exact⟨r,hk _ _ hr⟩
 | tree sz ns xs lk=>
  obtain⟨ad,n,c,h1,h2,h3⟩:=ho;have hb:∀ b,(Zp (some (.row ad n c sz))=some b∨∃ g B,Zp (some (.row ad n c sz))=some g∧ZK (VH w g (X0 sz lk)) ns B g sz xs 0∧b∈B)→w'.heap[b]?=w.heap[b]?∧(I' b→I b)∧(F b→F b):=fun b hb=>by
   rw[← h1] at hb;have:=ab b (hb.elim .inl fun h=>.inr (.inl h));exact⟨this.1,this.2,fun h=>h⟩
  refine⟨ad,n,c,hk _ _ h1,h2.mono hb,?_⟩;cases lk with
  | none=>trivial
  | some q=>exact h3.mono hk fun g hg=>(hb g (.inl (Xl.blk h2 (by simp) hg))).1
 | box cs=>
  obtain⟨b,cur,e,h1,h2,h3,h4,h5,h8⟩:=ho;obtain⟨h6,h7⟩:=ab b (.inl (by rw[h1];rfl));exact⟨b,cur,e,hk _ _ h1,by rw[h6,h2],fun hi=>h3 (h7 hi),h4,h5.mono fun _ _ h=>h.mono hk aa,h8.mono fun x te l u v g hc hv hg=>
   have:=ab g (.inr (.inr (ZnN h1 h2 hc hv hg)));⟨this.1,this.2,fun h=>h⟩⟩
 | row sz xs ex fz=>
  obtain⟨ad,n,c,h1,h2,h3⟩:=ho;refine⟨ad,n,c,hk _ _ h1,h2,?_⟩;rcases h3 with h3 | ⟨g,q0,cur,e,rfl,hc,hw,h4,h5,h6,h7,h8,af,h9⟩
  ·exact .inl h3
  ·obtain⟨ae,ag⟩:=ab g (.inl (by rw[h1];simp[Zp,Ku hc]));refine .inr ⟨g,q0,cur,e,rfl,hc,by rw[ae,hw],h4,h5,h6,h7,?_,af,?_⟩
   ·cases fz
    ·simp at h8 ⊢;exact fun hi=>h8 (ag hi)
    ·simp at h8 ⊢;exact aa.sub g h8
   ·cases ex
    ·exact h9.mono' aa ae
    ·simp only[Kk] at h9 ⊢;exact h9.mono' ⟨fun b hb=>⟨aa.sub b hb.1,hb.2⟩,fun b hb=>aa.blk b hb.1⟩ ae
theorem Sim.blk_lt (h:Sim nt F A I Γ U sl hp a w) {id:Nat} {o:Zh} (hl:lkp hp id=some o) {b:Nat} (hb:Blk Γ w id o b):b<w.heap.size:=by
 have ho:=h.objs id o hl;rcases hb with hb | hb | hb
 rotate_left
 ·exact(Zmr ho hb).1
 ·exact(ZqZ ho hb).1
 cases o with
 | tree sz ns xs lk=>
  obtain⟨ad,n,c,h1,⟨_,h3⟩,_⟩:=ho;rw[h1] at hb;rcases h3 with h3 | ⟨g,cur,e,B,rfl,hc,hw,_⟩
  ·cases ad<;>simp[Za3,Zp,h3.2.1] at hb
  ·simp only[Za3,Zp,Ku hc,Ki] at hb;cases hb;exact(KF.1 hw).1
 | gone=>cases hb
 | box cs=>
  obtain⟨b',cur,e,h1,h2,_⟩:=ho;rw[h1] at hb;cases hb;exact(KF.1 h2).1
 | row sz xs ex fz=>
  obtain⟨ad,n,c,h1,h2,h3⟩:=ho;rw[h1] at hb;rcases h3 with h3 | ⟨g,q0,cur,e,rfl,hc,hw,_⟩
  ·cases ad<;>simp[Za3,Zp,h3.2] at hb
  ·simp only[Za3,Zp,Ku hc,Ki] at hb;cases hb;exact(KF.1 hw).1
theorem ZdK {id:Nat} {o:Zh} (ho:XF Γ w I F A id o) {b:Nat} (hb:Blk Γ w id o b):F b:=by
 rcases hb with hb | hb | hb
 rotate_left
 ·exact(Zmr ho hb).2.2
 ·exact(ZqZ ho hb).2.2.1
 cases o with
 | box cs=>
  obtain⟨b',cur,e,h1,h2,h3,h4,_⟩:=ho;rw[h1] at hb;cases hb;exact h4
 | row sz xs ex fz=>
  obtain⟨ad,n,c,h1,h2,h3⟩:=ho;rw[h1] at hb;obtain⟨aa,rfl,rfl,hc⟩:=U1 hb;rcases h3 with h3 | ⟨g,q0,cur,e,hg,h4,h5,h6,h7,h8,h9,ab,ae,af⟩
  ·exact absurd h3.2 hc
  ·cases hg;exact ae
 | gone=>cases hb
 | tree sz ns xs lk=>
  obtain⟨ad,n,c,h1,⟨h2,h3⟩,_⟩:=ho;rw[h1] at hb;obtain⟨aa,rfl,rfl,hc⟩:=U1 hb;rcases h3 with h3 | ⟨g,cur,e,B,hg,h4,h5,h6,h7,h8,h9,ab,af,ag⟩
  ·exact absurd h3.2.1 hc
  ·cases hg;exact(ag g (by simp)).2
theorem ZiT {S:Nat→Prop} {x:D} {vs:List Value} (h:Zq (fun d v=>d.one=true∧ZH w S d [v]) x.cells vs):ZH w S x vs:=by
 have one:∀ {y:D},Zq (fun d v=>d.one=true∧ZH w S d [v]) [y] vs→ZH w S y vs:=by
  intro y h;cases vs with
  | nil=>exact h.elim
  | cons v vs=>cases vs with
   | nil=>exact h.1.2
   | cons _ _=>exact h.2.elim
 cases x with
 | agg cs=>exact QG.2 h
 | int k n=>exact one h
 | bool b=>exact one h
 | str b=>exact one h
 | sl b=>exact one h
theorem Sim.id_in (h:Sim nt F A I Γ U sl hp a w) {id:Nat} {o:Zh} (hl:lkp hp id=some o):U id:=by
 have ho:=h.objs id o hl;by_cases aa:¬U id
 ·have hn:=h.names id aa;cases o with
  | box cs=>obtain⟨b',cur,e,h1,_⟩:=ho;rw[hn] at h1;cases h1
  | row sz xs ex fz=>obtain⟨ad,n,c,h1,_⟩:=ho;rw[hn] at h1;cases h1
  | gone=>obtain⟨r,h1⟩:=ho;rw[hn] at h1;cases h1
  | tree sz ns xs lk=>obtain⟨ad,n,c,h1,_⟩:=ho;rw[hn] at h1;cases h1
 ·exact Classical.not_not.1 aa
def upd (Γ:Gh) (id:Nat) (r:Ref):Gh:=fun k=>if k=id then some r else Γ k
theorem Zw (Γ:Gh) (id:Nat) (r:Ref):upd Γ id r id=some r:=by simp[upd]
theorem Qg (Γ:Gh) {id k:Nat} (r:Ref) (h:k≠id):upd Γ id r k=Γ k:=by simp[upd,h]
theorem Yd {Γ:Gh} {id:Nat} (r:Ref) (h:Γ id=none):ZY Γ (upd Γ id r):=fun k x hk=>by
 unfold upd;split
 ·rename_i e;subst e;rw[h] at hk;cases hk
 ·exact hk
theorem Sim.add (h:Sim nt F A I Γ U sl hp a w) {U' : Nat→Prop} {adds:Hp} {Γ' : Gh} {w' : World} {v:AV} {u:Value} {dst:Option Nat}
  (hk:ZY Γ Γ') (ab:∀ k,k<w.heap.size→w'.heap[k]?=w.heap[k]?) (ap:w.heap.size≤w'.heap.size) (aq:w'.os=w.os) (af:w'.tape=w.tape) (aj:w'.output=w.output)
  (ak:∀ k o,(k,o)∈adds→XF Γ' w' I F A k o)
  (al:∀ i j o o' b,(i,o)∈adds→(j,o')∈adds→Blk Γ' w' i o b→Blk Γ' w' j o' b→i=j)
  (ag:∀ k o b,(k,o)∈adds→Blk Γ' w' k o b→w.heap.size≤b)
  (ad:∀ k,U k→Γ' k=Γ k)
  (ae:∀ id,¬U' id→Γ' id=none) (am:Rep Γ' w' I v u) (an:Qm nt dst=true) :
  X9 nt F A I Γ w U' (Zi sl dst v) (Zd hp adds) (a.put dst u) w':=by
 have aa:ZB I I w w':=⟨fun _ h=>h,fun b hI=>ab b (h.bound b hI)⟩
 have ao:∀ id o,lkp hp id=some o→Γ' id=Γ id:=fun id o hl=>ad id (h.id_in hl);have back:∀ id o b,lkp hp id=some o→Blk Γ' w' id o b→Blk Γ w id o b:=fun id o b hl hb=>hb.back (h.objs id o hl) (ao id o hl) fun g hg=>ab g (h.blk_lt hl hg);refine⟨I,Γ',hk,aa,fun _ h=>.inl h,⟨aq,af,aj,ap,fun k hk _=>ab k hk⟩,?_⟩;refine h.next hk aa ?_ ?_ (fun b hI=>by have:=h.bound b hI;omega) ap ae am an
 ·intro id o hl;rcases WG adds hp id o hl with hm | hm
  ·exact ak id o hm
  ·exact(h.objs id o hm).mono hk aa fun b hb=>⟨ab b (h.blk_lt hm hb),fun h=>h⟩
 ·intro i j o o' b hi hj ah ai;rcases WG adds hp i o hi with hi | hi<;>rcases WG adds hp j o' hj with hj | hj
  ·exact al i j o o' b hi hj ah ai
  ·have h1:=ag i o b hi ah;have h2:=h.blk_lt hj (back j o' b hj ai);omega
  ·have h1:=ag j o' b hj ai;have h2:=h.blk_lt hi (back i o b hi ah);omega
  ·exact h.inj i j o o' b hi hj (back i o b hi ah) (back j o' b hj ai)
theorem Zq0 (w:World) (I F A:Nat→Prop) (hi:Nat):∀ (slc:List (Option Nat)) (cs:List AV) (vs:List Value) (b:Nat) (Γ:Gh),Qr b hi (mat slc cs b).2=true→(∀ id,b≤id→id<hi→Γ id=none)→Zq (QT Γ w I) cs vs →
  ∃ Γ',ZY Γ Γ'∧(∀ k,k<b∨hi≤k→Γ' k=Γ k)∧(∀ k o,(k,o)∈(mat slc cs b).2→b≤k∧XF Γ' w I F A k o∧Zp (Γ' k)=none)∧Zq (QT Γ' w I) (mat slc cs b).1 vs:=by
 intro slc cs
 induction cs generalizing slc with
 | nil=>
  intro vs b Γ ae hn h;have hm:mat slc [] b=([],[]):=by cases slc<;>simp[mat]<;>(rename_i x _;cases x<;>simp[mat])
  rw[hm];exact⟨Γ,ZY.refl Γ,fun _ _=>rfl,fun k o aa=>by simp at aa,h⟩
 | cons c cs ih=>
  intro vs b Γ ae hn h;cases vs with
  | nil=>exact h.elim
  | cons v vs=>
   have skip:∀ ab,mat slc (c :: cs) b=(c :: (mat ab cs b).1,(mat ab cs b).2)→∃ Γ',ZY Γ Γ'∧(∀ k,k<b∨hi≤k→Γ' k=Γ k) ∧
     (∀ k o,(k,o)∈(mat slc (c :: cs) b).2→b≤k∧XF Γ' w I F A k o∧Zp (Γ' k)=none)∧Zq (QT Γ' w I) (mat slc (c :: cs) b).1 (v :: vs):=by
    intro ab he;rw[he] at ae;obtain⟨Γ',h1,h2,h3,h5⟩:=ih ab vs b Γ ae hn h.2;rw[he];exact⟨Γ',h1,h2,h3,h.1.mono h1 (ZB.refl I w),h5⟩
   cases slc with
   | nil=>
    have he:mat [] (c :: cs) b=(c :: cs,[]):=by cases c<;>simp[mat]
    rw[he];exact⟨Γ,ZY.refl Γ,fun _ _=>rfl,fun k o aa=>by simp at aa,h⟩
   | cons s slc=>
    by_cases hc:∃ s',s=some s'∧c=.nil
    ·obtain⟨s',rfl,rfl⟩:=hc;obtain⟨ad,hv⟩:∃ ad,v=.slice ad 0 0:=h.1;have he:mat (some s' :: slc) (.nil :: cs) b=(.own b :: (mat slc cs (b+1)).1,(b,.row s' [] true false) :: (mat slc cs (b+1)).2):=by simp[mat]
     rw[he] at ae;simp only[Qr,Kb,Kl] at ae;have af : ∀ id,b+1≤id→id<hi→upd Γ b (.row ad 0 0 s') id=none:=fun id ah ag=>by rw[Qg _ _ (by omega)];exact hn id (by omega) ag
     have hk:=Yd (.row ad 0 0 s') (hn b (Kh b) ae.1.2);obtain⟨Γ',h1,h2,h3,h5⟩:=ih slc vs (b+1) (upd Γ b (.row ad 0 0 s')) ae.2 af (h.2.mono fun _ _ h=>h.mono hk (ZB.refl I w));have hb:Γ' b=some (.row ad 0 0 s'):=h1 _ _ (Zw _ _ _);rw[he];refine⟨Γ',fun id r hr=>h1 _ _ (hk _ _ hr),fun k ai=>by rw[h2 k (by omega),Qg _ _ (by omega)],?_,⟨ad,0,0,s',hb,hv⟩,h5⟩;intro k o aa;rcases Kf.1 aa with aa | aa
     ·cases aa;exact⟨Kh _,⟨ad,0,0,hb,rfl,.inl ⟨rfl,rfl⟩⟩,by rw[hb];cases ad<;>simp[Zp]⟩
     ·obtain⟨h6,h7⟩:=h3 k o aa;exact⟨by omega,h7⟩
    ·refine skip slc ?_;cases s with
     | none=>cases c<;>simp[mat]
     | some s'=>cases c<;>first | (exact absurd ⟨s',rfl,rfl⟩ hc) | simp[mat]
end
end Go.Abs
