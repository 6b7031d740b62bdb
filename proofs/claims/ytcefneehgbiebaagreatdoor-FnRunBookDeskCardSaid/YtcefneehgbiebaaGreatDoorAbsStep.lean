/- Own text. -/
import Derived.Test.YtcefneehgbiebaaGreatDoorAbsPure
set_option linter.unusedVariables false
set_option linter.unusedSimpArgs false
namespace Go.Abs
open Go
theorem Qm {α:Type}:∀ (l:List (Nat×α)) (t:Nat) (v:α) (t' : Nat),lkp (ins l t v) t'=if t=t' then some v else lkp l t'
 | [],t,v,t'=>by simp[ins,lkp]
 | (k,x) :: r,t,v,t'=>by
  simp only[ins];split
  ·simp[lkp]
  ·split
   ·rename_i h;subst h;by_cases ht:k=t' <;> simp[lkp,ht]
   ·rename_i h;simp only[lkp,Qm r t v t'];by_cases hk:k=t'
    ·subst hk;simp[Ne.symm h]
    ·simp[hk]
theorem Zii:∀ (l:Hp) (t t' : Nat),lkp (del l t) t'=if t=t' then none else lkp l t'
 | [],t,t'=>by simp[del,lkp]
 | (k,x) :: r,t,t'=>by
  simp only[del];split
  ·rename_i h;subst h;rw[Zii r k t'];by_cases ht:k=t' <;> simp[lkp,ht]
  ·rename_i h;simp only[lkp,Zii r t t'];by_cases hk:k=t'
   ·subst hk;simp[Ne.symm h]
   ·simp[hk]
theorem Zbb:∀ (ds:List Nat) (l:Hp) (id:Nat) (o:Zm),lkp (Qs l ds) id=some o→lkp l id=some o∧id∉ds
 | [],l,id,o,h=>⟨h,by simp⟩
 | d :: ds,l,id,o,h=>by
  obtain⟨h1,h2⟩:=Zbb ds (del l d) id o h;rw[Zii] at h1;split at h1
  ·cases h1
  ·rename_i hd;exact⟨h1,by simp only[Kd,not_or];exact⟨fun e=>hd e.symm,h2⟩⟩
theorem Zbc:∀ (l:Hp) (hp:Hp) (id:Nat) (o:Zm),lkp (Zh hp l) id=some o→(id,o)∈l∨lkp hp id=some o
 | [],hp,id,o,h=>.inr h
 | (k,x) :: r,hp,id,o,h=>by
  rcases Zbc r (ins hp k x) id o h with h1 | h1
  ·exact .inl (KA _ h1)
  ·rw[Qm] at h1;split at h1
   ·rename_i hk;subst hk;cases h1;exact .inl (K5 ..)
   ·exact .inr h1
theorem Zpr (ids:List Nat):∀ (l:Hp) (id:Nat),lkp (freeze ids l) id=(lkp l id).map fun o=>if ids.contains id then VQ o else o
 | [],id=>by simp[freeze,lkp]
 | (k,x) :: r,id=>by
  simp only[freeze,lkp,Zpr ids r id];by_cases hk:k=id
  ·subst hk;simp
  ·simp[hk]
theorem Qd (ids:List Nat) (l:Hp) (id:Nat):lkp (Qi ids l) id=(lkp l id).map fun o=>if ids.contains id then VQ o else o:=by
 unfold Qi;split
 ·simp
 ·exact Zpr _ l id
theorem Zdl {α β:Type} (f:α→β):∀ (l:List (Nat×α)) (t:Nat),lkp (Ziv f l) t=(lkp l t).map f
 | [],t=>by simp[Ziv,lkp]
 | (k,x) :: r,t=>by
  simp only[Ziv,lkp,Zdl f r t];by_cases hk:k=t<;>simp[hk]
theorem Qz (sl:Sl) (dst:Option Nat) (v:AV) (t:Nat):gs (Zt sl dst v) t=if dst=some t then v else gs sl t:=by
 cases dst with
 | none=>simp[Zt]
 | some d=>
  simp only[Zt,gs,Qm,Option.some.injEq];by_cases h:d=t<;>simp[h,Zee]
theorem Ul:∀ {l:Hp} {lo hi:Nat},QZ lo hi l=true→∀ k o,(k,o)∈l→lo≤k∧k<hi
 | [],_,_,_,k,o,h=>by simp at h
 | (k',o') :: r,lo,hi,h,k,o,hm=>by
  simp only[QZ,Kf,Ko] at h;rcases Kd.1 hm with hm | hm
  ·cases hm;exact⟨h.1.1,h.1.2⟩
  ·have:=Ul h.2 k o hm;exact⟨by omega,this.2⟩
def UZ (nt:Nat) (F A I:Nat→Prop) (Γ:Gh) (w:World) (U' : Nat→Prop) (sl' : Sl) (hp' : Hp) (a' : Act) (w' : World):Prop:=
 ∃ I' Γ',(∀ id b,Γ id=some (.box b)→Γ' id=some (.box b))∧ZR I I' w w'∧(∀ b,I' b→I b∨F b)∧Fr F w w'∧Sim nt F A I' Γ' U' sl' hp' a' w'
theorem ZR.refl (I:Nat→Prop) (w:World):ZR I I w w:=⟨fun _ h=>h,fun _ _=>rfl⟩
theorem ZR.trans {I I' aa : Nat→Prop} {w w' ab : World} (h:ZR I I' w w') (k:ZR I' aa w' ab):ZR I aa w ab :=
 ⟨fun b hb=>k.sub b (h.sub b hb),fun b hb=>(k.blk b (h.sub b hb)).trans (h.blk b hb)⟩
theorem Q9.refl (Γ:Gh):Q9 Γ Γ:=fun _ _ h=>h
theorem Zv4 (a:Act) (dst:Option Tmp) (u:Value):(a.put dst u).tmps.size=a.tmps.size:=by
 cases dst<;>simp[Act.put]
theorem Zps (a:Act) (dst:Option Tmp) (u:Value):(a.put dst u).defers=a.defers:=by
 cases dst<;>simp[Act.put]
theorem ZyS {a:Act} {nt:Nat} (hn:a.tmps.size=nt) {dst:Option Tmp} (hd:Xb nt dst=true) (u:Value) (t:Nat):(a.put dst u).tmps.getD t undef=if dst=some t then u else a.tmps.getD t undef:=by
 cases dst with
 | none=>simp[Act.put]
 | some d=>
  simp only[Xb,Ko] at hd;by_cases h:d=t
  ·subst h;simp[Act.put,hn,hd]
  ·simp[Act.put,h]
section
variable {P:Program} {nt:Nat} {U:Nat→Prop} {F A I:Nat→Prop} {Γ:Gh} {sl:Sl} {hp:Hp} {a:Act} {w:World}
theorem Sim.slOK (h:Sim nt F A I Γ U sl hp a w):Zcw Γ w I sl a:=h.slots
theorem Sim.hpOK (h:Sim nt F A I Γ U sl hp a w):Za6 Γ w I F A hp:=h.objs
theorem Sim.more (h:Sim nt F A I Γ U sl hp a w) {U' : Nat→Prop} (hn:∀ id,U id→U' id):Sim nt F A I Γ U' sl hp a w:=
 { h with names:=fun id aa=>h.names id fun hu=>aa (hn id hu) }
theorem Sim.next (h:Sim nt F A I Γ U sl hp a w) {I' : Nat→Prop} {Γ' : Gh} {w' : World} {hp' : Hp} {v:AV} {u:Value} {dst:Option Nat} {U' : Nat→Prop}
  (hk:Q9 Γ Γ') (aa:ZR I I' w w') (ae:Za6 Γ' w' I' F A hp')
  (af:∀ i j o o' b,lkp hp' i=some o→lkp hp' j=some o'→Blk Γ' w' i o b→Blk Γ' w' j o' b→i=j)
  (ab:∀ b,I' b→b<w'.heap.size) (ai:w.heap.size≤w'.heap.size) (ad:∀ id,¬U' id→Γ' id=none) (ag:Rep Γ' w' I' v u) (ah:Xb nt dst=true) :
  Sim nt F A I' Γ' U' (Zt sl dst v) hp' (a.put dst u) w' where
 nt:=by rw[Zv4];exact h.nt
 dfr:=by rw[Zps];exact h.dfr
 slots:=fun t=>by
  rw[Qz,ZyS h.nt ah];split
  ·exact ag
  ·exact(h.slots t).mono hk aa
 objs:=ae
 inj:=af
 bound:=ab
 fresh:=fun b hb=>h.fresh b (by omega)
 own:=h.own
 names:=ad
 glob:=h.glob.mono aa
theorem Sim.pure (h:Sim nt F A I Γ U sl hp a w) {v:AV} {u:Value} {dst:Option Nat} {U' : Nat→Prop} (hn:∀ id,U id→U' id) (aa:Rep Γ w I v u) (ab:Xb nt dst=true) :
  UZ nt F A I Γ w U' (Zt sl dst v) hp (a.put dst u) w:=
 ⟨I,Γ,fun _ _ h=>h,ZR.refl I w,fun _ h=>.inl h,Fr.refl F w,h.next (Q9.refl Γ) (ZR.refl I w) h.objs h.inj h.bound (Kt _) (fun id ad=>h.names id fun hu=>ad (hn id hu)) aa ab⟩
theorem Zdm {a:Option Addr} {n c sz b:Nat} (h:ZB (some (.row a n c sz))=some b):∃ ad,a=some ad∧ad.block=b∧c≠0:=by
 cases a with
 | none=>simp[ZB] at h
 | some ad=>
  simp only[ZB] at h;split at h
  ·cases h
  ·cases h;exact⟨ad,rfl,rfl,by assumption⟩
theorem ZsY {ns:Nat} {y:D} {v:Value} (h:WK w I F A ns y v) {b:Nat} (hb:YB v=some b) :
  ∃ ys a c,y=.sl ys∧v=.slice a ys.length c∧Zfe w I F A a ys.length c ns ys true false∧Zb0 D.flat ys=true∧ZB (some (.row a ys.length c ns))=some b:=by
 cases y with
 | sl ys=>
  obtain⟨a,c,rfl,h2,h3⟩:=h;refine⟨ys,a,c,rfl,rfl,h2,h3,?_⟩;cases a with
  | none=>simp[YB] at hb
  | some ad=>simpa [YB,ZB] using hb
 | int k n=>obtain⟨_,h2⟩:=h;simp[ZQ] at h2;subst h2;simp[YB] at hb
 | bool k=>obtain⟨_,h2⟩:=h;simp[ZQ] at h2;subst h2;simp[YB] at hb
 | str k=>obtain⟨_,h2⟩:=h;simp[ZQ] at h2;obtain⟨t,h2,_⟩:=h2;subst h2;simp[YB] at hb
 | agg cs=>exact absurd h.1 (by simp[D.plain])
theorem ZCC {a:Option Addr} {n c sz b:Nat} {xs:List D} {ex:Bool} (h:Zfe w I F A a n c sz xs ex false) (hb:ZB (some (.row a n c sz))=some b):b<w.heap.size∧¬I b∧F b:=by
 obtain⟨ad,rfl,rfl,hc⟩:=Zdm hb;rcases h.2 with h3 | ⟨g,cur,e,hg,h4,hw,h6,h7,h8,h9,aa,ab,ae⟩
 ·exact absurd h3.2 hc
 ·cases hg;exact⟨(KR.1 hw).1,by simpa using aa,ab⟩
theorem ZBm {id:Nat} {o:Zm} (ho:Wa Γ w I F A id o) {b:Nat} (hb:Ye Γ w id o b) :
  ∃ sz ns xs lk i j x ys v a c g,o=.deep sz ns xs lk∧xs[i]?=some x∧x.cells[j]?=some (.sl ys)∧j<sz∧ZB (Γ id)=some g∧w.cell? ⟨g,i*sz+j,none⟩=some v∧v=.slice a ys.length c∧Zfe w I F A a ys.length c ns ys true false∧ZB (some (.row a ys.length c ns))=some b:=by
 cases o with
 | box cs=>exact hb.elim
 | row sz xs ex fz=>exact hb.elim
 | deep sz ns xs lk=>
  obtain⟨g,p,hg,hp,hn⟩:=hb;obtain⟨ad,n,c,h1,hd,_⟩:=ho;rw[h1] at hg;obtain⟨ak,rfl,rfl,hc⟩:=Zdm hg;obtain⟨h2,h3⟩:=hd;rcases h3 with h3 | ⟨g,cur,e,ae,al,hw,h4,h5,h6,ab,h8,am,af,ag,an⟩
  ·exact absurd h3.2 hc
  ·cases ae;have hi:p / sz<xs.length:=(Nat.div_lt_iff_lt_mul ab).2 hp;obtain⟨vs,v1,v2,v3⟩:=af (p / sz) xs[p / sz] (Kn hi);have hj:p % sz<sz:=Nat.mod_lt _ ab;obtain⟨v,hv⟩:∃ v,vs[p % sz]?=some v:=⟨_,Kn (by omega)⟩
   have aa:=v2 _ _ hv;have e1:p / sz*sz+p % sz=p:=by rw[Nat.mul_comm];exact Nat.div_add_mod p sz
   rw[e1] at aa;unfold YP at hn;rw[aa] at hn;obtain⟨y,hy,ah⟩:=v3.get' _ _ hv;obtain⟨ys,a',c',rfl,rfl,ai,_,aj⟩:=ZsY ah hn;exact⟨sz,ns,xs,lk,p / sz,p % sz,_,ys,_,a',c',g,rfl,Kn hi,hy,hj,by rw[h1];simp[ZB,hc],by rw[e1];exact aa,rfl,ai,aj⟩
theorem Zpt {id:Nat} {o:Zm} (ho:Wa Γ w I F A id o) {b:Nat} (hb:Ye Γ w id o b):b<w.heap.size∧¬I b∧F b:=by
 obtain⟨sz,ns,xs,lk,i,j,x,ys,v,a,c,g,_,_,_,_,_,_,_,h1,h2⟩:=ZBm ho hb;exact ZCC h1 h2
theorem ZDY {id sz ns:Nat} {xs:List D} {lk:Option (Nat×Nat×Nat)} {n c:Nat} {a:Option Addr} (h1:Γ id=some (.row a n c sz)) {b:Nat} (h:Ye Γ w id (.deep sz ns xs lk) b) :
  ∃ g p,a=some g∧c≠0∧p<xs.length*sz∧YP w g.block p=some b:=by
 obtain⟨g,p,hg,hp,hn⟩:=h;rw[h1] at hg;obtain⟨aa,rfl,rfl,hc⟩:=Zdm hg;exact⟨aa,p,rfl,hc,hp,hn⟩
theorem Ye.back {Γ' : Gh} {w' : World} {id:Nat} {o:Zm} {b:Nat} (h:Ye Γ' w' id o b) (hg:Γ' id=Γ id) (hw:∀ g,ZB (Γ id)=some g→w'.heap[g]?=w.heap[g]?):Ye Γ w id o b:=by
 cases o with
 | box cs=>exact h.elim
 | row sz xs ex fz=>exact h.elim
 | deep sz ns xs lk=>
  obtain⟨g,p,h1,h2,h3⟩:=h;rw[hg] at h1;refine⟨g,p,h1,h2,?_⟩;unfold YP at h3 ⊢
  rwa [World.cell?_of_block (w:=w) (a:=⟨g,p,none⟩) (hw g h1)] at h3
theorem Buf.is {id:Nat} {o:Zm} {b:Nat} (h:Buf Γ w id o b):∃ x te l g,o=.box [x,.bbuf te l]∧ZB (Γ id)=some g∧YP w g 1=some b:=by
 unfold Buf at h;split at h
 ·obtain⟨g,h1,h2⟩:=h;exact⟨_,_,_,g,rfl,h1,h2⟩
 ·exact h.elim
theorem Buf.back {Γ' : Gh} {w' : World} {id:Nat} {o:Zm} {b:Nat} (h:Buf Γ' w' id o b) (hg:Γ' id=Γ id) (hw:∀ g,ZB (Γ id)=some g→w'.heap[g]?=w.heap[g]?):Buf Γ w id o b:=by
 obtain⟨x,te,l,g,rfl,h1,h2⟩:=h.is;rw[hg] at h1;refine⟨g,h1,?_⟩;unfold YP at h2 ⊢
 rwa [World.cell?_of_block (w:=w) (a:=⟨g,1,none⟩) (hw g h1)] at h2
theorem ZBn {id:Nat} {o:Zm} (ho:Wa Γ w I F A id o) {b:Nat} (hb:Buf Γ w id o b):b<w.heap.size∧¬I b∧F b∧ZB (Γ id)≠some b:=by
 obtain⟨x,te,l,g,rfl,h1,h2⟩:=hb.is;obtain⟨b',cur,e,g1,g2,g3,g4,g5,g6⟩:=ho;rw[g1] at h1;cases h1
 match hc:cur.toList,g5,g6 with
 | [u,v],g5,g6=>
  have aa:w.cell? ⟨b',1,none⟩=some v:=by
   have:cur[1]?=some v:=by rw[← LF,hc];rfl
   simp[World.cell?,g2,this]
  rcases g6 with ⟨_,rfl⟩ | ⟨g,ab,ad,rfl,k1,k2,k3,k4,k5,k6,k7,k8,k9⟩
  ·unfold YP at h2;rw[show ((b',e).1:Nat)=b' from rfl,aa] at h2;simp[YB] at h2
  have hv:w.cell? ⟨b',1,none⟩=some (.slice (some ⟨g,0,none⟩) l.length ab):=by
   have:cur[1]?=some (.slice (some ⟨g,0,none⟩) l.length ab):=by rw[← LF,hc];rfl
   simp[World.cell?,g2,this]
  unfold YP at h2;rw[show ((b',e).1:Nat)=b' from rfl,hv] at h2;simp only[YB,KG (LV k1 k3),Kq,Option.some.injEq] at h2;subst h2;refine⟨(KR.1 k2).1,k7,k8,?_⟩;rw[g1];intro e;cases e;exact k9 rfl
 | [],g5,_=>exact g5.elim
 | [_],g5,_=>exact g5.2.elim
 | _ :: _ :: _ :: _,g5,_=>exact g5.2.2.elim
theorem Blk.back {Γ' : Gh} {w' : World} {id:Nat} {o:Zm} {b:Nat} (h:Blk Γ' w' id o b) (hg:Γ' id=Γ id) (hw:∀ g,ZB (Γ id)=some g→w'.heap[g]?=w.heap[g]?):Blk Γ w id o b:=by
 rcases h with h | h | h
 ·exact .inl (hg ▸ h)
 ·exact .inr (.inl (h.back hg hw))
 ·exact .inr (.inr (h.back hg hw))
theorem Blk.nil {id:Nat} {o:Zm} {b:Nat} (h:Blk Γ w id o b) (h0:ZB (Γ id)=none):False:=by
 rcases h with h | h | h
 rotate_right
 ·obtain⟨x,te,l,g,rfl,h1,h2⟩:=h.is;rw[h0] at h1;cases h1
 ·rw[h0] at h;cases h
 ·cases o with
  | box cs=>exact h
  | row sz xs ex fz=>exact h
  | deep sz ns xs lk=>obtain⟨g,p,h1,_⟩:=h;rw[h0] at h1;cases h1
theorem Blk.box {id:Nat} {cs:List AV} {b:Nat} (hn:XY cs=true) (h:Blk Γ w id (.box cs) b):ZB (Γ id)=some b:=by
 rcases h with h | h | h
 ·exact h
 ·exact h.elim
 ·obtain⟨x,te,l,g,h1,_⟩:=h.is;cases h1;cases x<;>cases hn
theorem Blk.row {id sz:Nat} {xs:List D} {ex fz:Bool} {b:Nat} (h:Blk Γ w id (.row sz xs ex fz) b):ZB (Γ id)=some b:=h.elim (fun h=>h) fun h=>h.elim False.elim False.elim
theorem Zfe.mono {a:Option Addr} {n c sz:Nat} {xs:List D} {ex fz:Bool} {I' : Nat→Prop} {w' : World} (h:Zfe w I F A a n c sz xs ex fz) (aa:ZR I I' w w')
  (ab:∀ b,ZB (some (.row a n c sz))=some b→w'.heap[b]?=w.heap[b]?∧(I' b→I b)):Zfe w' I' F A a n c sz xs ex fz:=by
 obtain⟨h2,h3⟩:=h;refine⟨h2,?_⟩;rcases h3 with h3 | ⟨g,cur,e,rfl,hc,hw,h4,h5,h6,h7,h8,ae,h9⟩
 ·exact .inl h3
 ·obtain⟨ad,af⟩:=ab g (by simp[ZB,KG hc]);refine .inr ⟨g,cur,e,rfl,hc,by rw[ad,hw],h4,h5,h6,h7,?_,ae,?_⟩
  ·cases fz
   ·simp at h8 ⊢;exact fun hi=>h8 (af hi)
   ·simp at h8 ⊢;exact aa.sub g h8
  ·cases ex
   ·exact h9.mono' aa ad
   ·simp only[Km] at h9 ⊢;exact h9.mono' ⟨fun b hb=>⟨aa.sub b hb.1,hb.2⟩,fun b hb=>aa.blk b hb.1⟩ ad
theorem WK.mono {I' : Nat→Prop} {w' : World} {ns:Nat} {y:D} {v:Value} (h:WK w I F A ns y v) (aa:ZR I I' w w') (ab:∀ b,YB v=some b→w'.heap[b]?=w.heap[b]?∧(I' b→I b)):WK w' I' F A ns y v:=by
 cases y with
 | sl ys=>
  obtain⟨a,c,rfl,h2,h3⟩:=h;refine⟨a,c,rfl,h2.mono aa fun b hb=>ab b ?_,h3⟩;cases a with
  | none=>simp[ZB] at hb
  | some ad=>simpa [YB,ZB] using hb
 | int k n=>exact⟨h.1,h.2.mono aa⟩
 | bool k=>exact⟨h.1,h.2.mono aa⟩
 | str k=>exact⟨h.1,h.2.mono aa⟩
 | agg cs=>exact absurd h.1 (by simp[D.plain])
theorem Zij {w:World} {g p b:Nat} {v:Value} (hv:w.cell? ⟨g,p,none⟩=some v) (hb:YB v=some b):YP w g p=some b:=by
 unfold YP;rw[hv];exact hb
theorem Zdf.mono {a:Option Addr} {n c sz ns:Nat} {xs:List D} {I' : Nat→Prop} {w' : World} (h:Zdf w I F A a n c sz ns xs) (aa:ZR I I' w w')
  (ab:∀ b,ZB (some (.row a n c sz))=some b→w'.heap[b]?=w.heap[b]?∧(I' b→I b))
  (aj:∀ g p b,ZB (some (.row a n c sz))=some g→p<xs.length*sz→YP w g p=some b→w'.heap[b]?=w.heap[b]?∧(I' b→I b)):Zdf w' I' F A a n c sz ns xs:=by
 obtain⟨h2,h3⟩:=h;refine⟨h2,?_⟩;rcases h3 with h3 | ⟨g,cur,e,rfl,hc,hw,h4,h5,h6,ad,h8,ak,al,ae,am⟩
 ·exact .inl h3
 ·have ah:ZB (some (.row (some ⟨g,0,none⟩) n c sz))=some g:=by simp[ZB,KG hc]
  obtain⟨af,an⟩:=ab g ah;have ag:∀ p,YP w' g p=YP w g p:=fun p=>by unfold YP;rw[World.cell?_of_block (w:=w) (a:=⟨g,p,none⟩) af]
  refine .inr ⟨g,cur,e,rfl,hc,by rw[af,hw],h4,h5,h6,ad,fun hi=>h8 (an hi),ak,?_,fun p q b hp hq h1 h2=>ae p q b hp hq (ag p ▸ h1) (ag q ▸ h2),fun p hp=>by rw[ag];exact am p hp⟩;intro i x hx;obtain⟨vs,v1,v2,v3⟩:=al i x hx;refine⟨vs,v1,v2.mono af,Zu.of_get v3.length fun j y v hy hv=>?_⟩;obtain⟨v',ai,hn⟩:=v3.get j y hy;rw[hv] at ai;cases ai;refine hn.mono aa fun b hb=>aj g (i*sz+j) b ah ?_ (Zij (v2 j v hv) hb);have hi:i<xs.length:=(Kb.1 hx).1;have hj:j<sz:=by rw[← v1];exact(Kb.1 hv).1
  have:=KF sz (show i+1≤xs.length from hi);rw[KH] at this;omega
theorem Zuf.mono {Γ' : Gh} {w' : World} {a:Option Addr} {sz:Nat} {xs:List D} {lk:Option (Nat×Nat×Nat)} (h:Zuf Γ w a sz xs lk) (hk:Q9 Γ Γ') (aa:∀ g,a=some ⟨g,0,none⟩→w'.heap[g]?=w.heap[g]?):Zuf Γ' w' a sz xs lk:=by
 cases lk with
 | none=>trivial
 | some q=>
  obtain⟨nm,i,j⟩:=q;obtain⟨g,a',n',c',ab,h1,h2,h3,h4,h5⟩:=h;exact⟨g,a',n',c',ab,h1,hk _ _ h2,h3,h4,by rw[World.cell?_of_block (w:=w) (a:=⟨g,i*sz+j,none⟩) (aa g h1)];exact h5⟩
theorem Zcp.mono {b:Nat} {cs:List AV} {vs:List Value} {w' : World} {I' F' : Nat→Prop} (h:Zcp w I F b cs vs)
  (hh:∀ x te l u v g,cs=[x,.bbuf te l]→vs=[u,v]→YB v=some g→w'.heap[g]?=w.heap[g]?∧(I' g→I g)∧(F g→F' g)):Zcp w' I' F' b cs vs:=by
 unfold Zcp at h;split at h
 ·rcases h with h | ⟨g,ab,aa,h1,k1,k2,k3,k4,k5,k6,k7,k8,k9⟩
  ·exact .inl h
  obtain⟨m1,m2,m3⟩:=hh _ _ _ _ _ g rfl rfl (by rw[h1];simp[YB,KG (LV k1 k3)]);exact .inr ⟨g,ab,aa,h1,k1,by rw[m1];exact k2,k3,k4,k5,k6,fun hi=>k7 (m2 hi),m3 k8,k9⟩
 ·unfold Zcp;split
  ·rename_i x te l u v _;cases x<;>cases h
  ·exact h
theorem ZxW {id b:Nat} {cur:Array Value} {e:TypeId} {cs:List AV} {x:AV} {te:Nat} {l:List UInt8} {u v:Value} {g:Nat} (h1:Γ id=some (.box (b,e))) (h2:w.heap[b]?=some (.cells cur e (0,0)))
  (hc:cs=[x,.bbuf te l]) (hv:cur.toList=[u,v]) (hg:YB v=some g):Buf Γ w id (.box cs) g:=by
 subst hc;refine⟨b,by rw[h1];rfl,?_⟩;have:cur[1]?=some v:=by rw[← LF,hv];rfl
 unfold YP;have aa:w.cell? ⟨b,1,none⟩=some v:=by simp[World.cell?,h2,this]
 rw[aa];exact hg
theorem ZsZ {f:AV→AV} (hf:∀ v te l,f v=.bbuf te l↔v=.bbuf te l):∀ {cs:List AV},XY (cs.map f)=XY cs
 | []=>rfl
 | c :: cs=>by
  have ih:=ZsZ hf (cs:=cs);by_cases h:∃ te l,c=.bbuf te l
  ·obtain⟨te,l,rfl⟩:=h;rw[Kj,(hf _ te l).2 rfl];rfl
  ·have e:∀ (v:AV) (r:List AV),(¬∃ te l,v=.bbuf te l)→XY (v :: r)=XY r:=fun v r hv=>by
    cases v<;>first | rfl | exact absurd ⟨_,_,rfl⟩ hv
   rw[Kj,e _ _ h,e _ _ (fun ⟨te,l,hh⟩=>h ⟨te,l,(hf _ _ _).1 hh⟩),ih]
theorem Zcp.map {b:Nat} {cs:List AV} {vs:List Value} {f:AV→AV} (hf:∀ v te l,f v=.bbuf te l↔v=.bbuf te l) (h:Zcp w I F b cs vs):Zcp w I F b (cs.map f) vs:=by
 unfold Zcp at h;split at h
 ·rename_i x te l u v;rw[Kj,Kj,(hf _ te l).2 rfl];exact h
 ·rename_i hn;have h' : XY (cs.map f)=true:=by rw[ZsZ hf];exact h
  unfold Zcp;split
  ·rename_i x te l u v aa;rw[aa] at h';cases x<;>cases h'
  ·exact h'
theorem Zbd {b:Nat} {cs:List AV} {vs:List Value} (h:XY cs=true):Zcp w I F b cs vs:=by
 unfold Zcp;split
 ·rename_i x te l u v;cases x<;>cases h
 ·exact h
theorem Zik:∀ (slc:List (Option Nat)) (cs:List AV) (b:Nat),XY (mat slc cs b).1=XY cs:=by
 intro slc
 induction slc with
 | nil=>intro cs b;cases cs<;>rfl
 | cons s ts ih=>
  intro cs b;cases cs with
  | nil=>cases s<;>rfl
  | cons v vs=>
   cases s with
   | none=>cases v<;>simp only[mat,XY,ih]
   | some s=>cases v<;>simp only[mat,XY,ih]
theorem ZlD:∀ {cs:List AV},XY cs=true↔∀ te l,AV.bbuf te l∉cs
 | []=>by simp[XY]
 | c :: cs=>by
  by_cases h:∃ te l,c=.bbuf te l
  ·obtain⟨te,l,rfl⟩:=h;simp only[XY,Ka,false_iff];exact fun hh=>hh te l (K5 ..)
  ·have e:XY (c :: cs)=XY cs:=by cases c<;>first | rfl | exact absurd ⟨_,_,rfl⟩ h
   rw[e,ZlD];refine forall_congr' fun te=>forall_congr' fun l=>not_congr ?_;rw[Kd];exact⟨.inr,fun hh=>hh.elim (fun hh=>absurd ⟨te,l,hh.symm⟩ h) fun hh=>hh⟩
theorem ZcD {cs vs:List AV} {off:Nat} (h1:XY cs=true) (h2:XY vs=true):XY (Qe cs off vs)=true:=by
 rw[ZlD] at h1 h2 ⊢;intro te l hm;unfold Qe at hm;rcases Kg.1 hm with hm | hm
 ·rcases Kg.1 hm with hm | hm
  ·exact h1 te l (K0 hm)
  ·exact h2 te l hm
 ·exact h1 te l (LH hm)
theorem ZbM:∀ {vs:List AV},Ym vs=true→XY vs=true
 | [],_=>rfl
 | v :: vs,h=>by
  simp only[Ym,Kf] at h;have:=ZbM h.2;cases v<;>first | exact this | (cases h.1)
theorem Zv5 {id:Nat} {cs:List AV} {b:Nat} (hn:XY cs=true) (h:Buf Γ w id (.box cs) b):False:=by
 obtain⟨x,te,l,g,h1,_⟩:=h.is;cases h1;cases x<;>cases hn
theorem JC (g:List Nat) (v:AV) (te:Nat) (l:List UInt8):ZV g v=.bbuf te l↔v=.bbuf te l:=by
 constructor
 ·intro h;cases v<;>simp only[ZV,Qf] at h<;>first | exact h | (cases h;done) | (split at h<;>cases h)
 ·rintro rfl;rfl
theorem ZcR (g:Nat→Nat) (v:AV) (te:Nat) (l:List UInt8):ZeR g v=.bbuf te l↔v=.bbuf te l:=by
 constructor
 ·intro h;cases v<;>simp only[ZeR,ZeQ] at h<;>first | exact h | (cases h;done)
 ·rintro rfl;rfl
theorem Buf.unmap {id:Nat} {cs:List AV} {f:AV→AV} (hf:∀ v te l,f v=.bbuf te l↔v=.bbuf te l) {b:Nat} (h:Buf Γ w id (.box (cs.map f)) b):Buf Γ w id (.box cs) b:=by
 obtain⟨x,te,l,g,h1,h2,h3⟩:=h.is
 match cs,h1 with
 | [],h1=>cases h1
 | [_],h1=>simp at h1
 | _ :: _ :: _ :: _,h1=>simp at h1
 | [y,z],h1=>
  simp only[Kj,Kx,Zm.box.injEq,List.cons.injEq,and_true] at h1;rw[(hf _ _ _).1 h1.2];exact⟨g,h2,h3⟩
theorem Buf.ren {Γ' : Gh} {id aa : Nat} {o:Zm} {b:Nat} (h:Buf Γ w id o b) (hg:Γ' aa=Γ id):Buf Γ' w aa o b:=by
 obtain⟨x,te,l,g,rfl,h2,h3⟩:=h.is;exact⟨g,by rw[hg];exact h2,h3⟩
theorem Wa.mono {Γ' : Gh} {I' : Nat→Prop} {w' : World} {id:Nat} {o:Zm} (ho:Wa Γ w I F A id o) (hk:Q9 Γ Γ') (aa:ZR I I' w w')
  (ab:∀ b,Blk Γ w id o b→w'.heap[b]?=w.heap[b]?∧(I' b→I b)):Wa Γ' w' I' F A id o:=by
 cases o with
 | deep sz ns xs lk=>
  obtain⟨ad,n,c,h1,h2,h3⟩:=ho;refine⟨ad,n,c,hk _ _ h1,h2.mono aa (fun b hb=>ab b (.inl (by rw[h1];exact hb))) fun g p b hg hp hb=>ab b (.inr (.inl ⟨g,p,by rw[h1];exact hg,hp,hb⟩)),?_⟩;cases lk with
  | none=>trivial
  | some q=>
   refine h3.mono hk fun g hg=>(ab g (.inl ?_)).1;subst hg;rw[h1];obtain⟨nm,i,j⟩:=q;obtain⟨g',a',n',c',ah,h4,h5,h6,_⟩:=h3;have hn:=h2.1;rcases h2.2 with h7 | ⟨_,_,_,_,h7,_⟩
   ·omega
   ·simp[ZB,KG h7]
 | box cs=>
  obtain⟨b,cur,e,h1,h2,h3,h4,h5,h8⟩:=ho;obtain⟨h6,h7⟩:=ab b (.inl (by rw[h1];rfl));exact⟨b,cur,e,hk _ _ h1,by rw[h6,h2],fun hi=>h3 (h7 hi),h4,h5.mono fun _ _ h=>h.mono hk aa,h8.mono fun x te l u v g hc hv hg=>
   have:=ab g (.inr (.inr (ZxW h1 h2 hc hv hg)));⟨this.1,this.2,fun h=>h⟩⟩
 | row sz xs ex fz=>
  obtain⟨ad,n,c,h1,h2,h3⟩:=ho;refine⟨ad,n,c,hk _ _ h1,h2,?_⟩;rcases h3 with h3 | ⟨g,cur,e,rfl,hc,hw,h4,h5,h6,h7,h8,af,h9⟩
  ·exact .inl h3
  ·obtain⟨ae,ag⟩:=ab g (.inl (by rw[h1];simp[ZB,KG hc]));refine .inr ⟨g,cur,e,rfl,hc,by rw[ae,hw],h4,h5,h6,h7,?_,af,?_⟩
   ·cases fz
    ·simp at h8 ⊢;exact fun hi=>h8 (ag hi)
    ·simp at h8 ⊢;exact aa.sub g h8
   ·cases ex
    ·exact h9.mono' aa ae
    ·simp only[Km] at h9 ⊢;exact h9.mono' ⟨fun b hb=>⟨aa.sub b hb.1,hb.2⟩,fun b hb=>aa.blk b hb.1⟩ ae
theorem Sim.blk_lt (h:Sim nt F A I Γ U sl hp a w) {id:Nat} {o:Zm} (hl:lkp hp id=some o) {b:Nat} (hb:Blk Γ w id o b):b<w.heap.size:=by
 have ho:=h.objs id o hl;rcases hb with hb | hb | hb
 rotate_left
 ·exact(Zpt ho hb).1
 ·exact(ZBn ho hb).1
 cases o with
 | deep sz ns xs lk=>
  obtain⟨ad,n,c,h1,⟨_,h3⟩,_⟩:=ho;rw[h1] at hb;rcases h3 with h3 | ⟨g,cur,e,rfl,hc,hw,_⟩
  ·cases ad<;>simp[ZB,h3.2] at hb
  ·simp only[ZB,KG hc,Kq] at hb;cases hb;exact(KR.1 hw).1
 | box cs=>
  obtain⟨b',cur,e,h1,h2,_⟩:=ho;rw[h1] at hb;cases hb;exact(KR.1 h2).1
 | row sz xs ex fz=>
  obtain⟨ad,n,c,h1,h2,h3⟩:=ho;rw[h1] at hb;rcases h3 with h3 | ⟨g,cur,e,rfl,hc,hw,_⟩
  ·cases ad<;>simp[ZB,h3.2] at hb
  ·simp only[ZB,KG hc,Kq] at hb;cases hb;exact(KR.1 hw).1
theorem ZiP {id:Nat} {o:Zm} (ho:Wa Γ w I F A id o) {b:Nat} (hb:Blk Γ w id o b):F b:=by
 rcases hb with hb | hb | hb
 rotate_left
 ·exact(Zpt ho hb).2.2
 ·exact(ZBn ho hb).2.2.1
 cases o with
 | box cs=>
  obtain⟨b',cur,e,h1,h2,h3,h4,_⟩:=ho;rw[h1] at hb;cases hb;exact h4
 | row sz xs ex fz=>
  obtain⟨ad,n,c,h1,h2,h3⟩:=ho;rw[h1] at hb;obtain⟨ab,rfl,rfl,hc⟩:=Zdm hb;rcases h3 with h3 | ⟨g,cur,e,hg,h4,h5,h6,h7,h8,h9,ae,aa,af⟩
  ·exact absurd h3.2 hc
  ·cases hg;exact aa
 | deep sz ns xs lk=>
  obtain⟨ad,n,c,h1,⟨h2,h3⟩,_⟩:=ho;rw[h1] at hb;obtain⟨ab,rfl,rfl,hc⟩:=Zdm hb;rcases h3 with h3 | ⟨g,cur,e,hg,h4,h5,h6,h7,h8,h9,ae,aa,af⟩
  ·exact absurd h3.2 hc
  ·cases hg;exact aa
theorem Zs0 {S:Nat→Prop} {ns:Nat} {y:D} {v:Value} (h:WK w I F A ns y v) (hI:∀ b,I b→A b→S b) (hb:∀ b,YB v=some b→S b):y.one=true∧ZQ w S y [v]:=by
 cases y with
 | sl ys=>
  obtain⟨a,c,rfl,⟨_,h2⟩,h3⟩:=h;refine⟨rfl,a,c,rfl,?_⟩;rcases h2 with h2 | ⟨g,cur,e,rfl,hc,hw,h4,h5,h6,h7,h8,aa,h9⟩
  ·exact⟨by omega,.inl (Ks h2.1)⟩
  ·refine⟨h4,.inr ⟨g,0,ns,rfl,hb g (by simp[YB,KG hc]),h7,?_⟩⟩;simp only[Km] at h9;exact h9.mono' ⟨fun b hb=>hI b hb.1 hb.2,fun _ _=>rfl⟩ rfl
 | int k n=>exact⟨rfl,by simpa [ZQ] using h.2⟩
 | bool k=>exact⟨rfl,by simpa [ZQ] using h.2⟩
 | str k=>exact⟨rfl,by simpa [ZQ] using h.2⟩
 | agg cs=>exact absurd h.1 (by simp[D.plain])
theorem Zer {S:Nat→Prop} {x:D} {vs:List Value} (h:Zu (fun d v=>d.one=true∧ZQ w S d [v]) x.cells vs):ZQ w S x vs:=by
 have one:∀ {y:D},Zu (fun d v=>d.one=true∧ZQ w S d [v]) [y] vs→ZQ w S y vs:=by
  intro y h;cases vs with
  | nil=>exact h.elim
  | cons v vs=>cases vs with
   | nil=>exact h.1.2
   | cons _ _=>exact h.2.elim
 cases x with
 | agg cs=>exact Xu.2 h
 | int k n=>exact one h
 | bool b=>exact one h
 | str b=>exact one h
 | sl b=>exact one h
theorem Zpu {S:Nat→Prop} {g n c sz ns:Nat} {xs:List D} (hd:Zdf w I F A (some ⟨g,0,none⟩) n c sz ns xs) (hI:∀ b,I b→A b→S b) (ab:∀ p b,p<xs.length*sz→YP w g p=some b→S b):JY w S g sz xs 0:=by
 rw[Ya];intro i x hx;obtain⟨g',vs,hg,h1,h2,h3⟩:=ZcP hd hx;cases hg;refine⟨vs,h1,by simpa using h2,Zer (Zu.of_get h3.length fun j y v hy hv=>?_)⟩;obtain⟨v',aa,hn⟩:=h3.get j y hy;rw[hv] at aa;cases aa;refine Zs0 hn hI fun b hb=>ab (i*sz+j) b ?_ (Zij (h2 j v hv) hb);have hi:i<xs.length:=(Kb.1 hx).1;have hj:j<sz:=by rw[← h1];exact(Kb.1 hv).1
 have:=KF sz (show i+1≤xs.length from hi);rw[KH] at this;omega
theorem Sim.id_in (h:Sim nt F A I Γ U sl hp a w) {id:Nat} {o:Zm} (hl:lkp hp id=some o):U id:=by
 have ho:=h.objs id o hl;by_cases aa:¬U id
 ·have hn:=h.names id aa;cases o with
  | box cs=>obtain⟨b',cur,e,h1,_⟩:=ho;rw[hn] at h1;cases h1
  | row sz xs ex fz=>obtain⟨ad,n,c,h1,_⟩:=ho;rw[hn] at h1;cases h1
  | deep sz ns xs lk=>obtain⟨ad,n,c,h1,_⟩:=ho;rw[hn] at h1;cases h1
 ·exact Classical.not_not.1 aa
def upd (Γ:Gh) (id:Nat) (r:Ref):Gh:=fun k=>if k=id then some r else Γ k
theorem ZK (Γ:Gh) (id:Nat) (r:Ref):upd Γ id r id=some r:=by simp[upd]
theorem Qj (Γ:Gh) {id k:Nat} (r:Ref) (h:k≠id):upd Γ id r k=Γ k:=by simp[upd,h]
theorem Vn {Γ:Gh} {id:Nat} (r:Ref) (h:Γ id=none):Q9 Γ (upd Γ id r):=fun k x hk=>by
 unfold upd;split
 ·rename_i e;subst e;rw[h] at hk;cases hk
 ·exact hk
theorem Sim.add (h:Sim nt F A I Γ U sl hp a w) {U' : Nat→Prop} {adds:Hp} {Γ' : Gh} {w' : World} {v:AV} {u:Value} {dst:Option Nat}
  (hk:Q9 Γ Γ') (ab:∀ k,k<w.heap.size→w'.heap[k]?=w.heap[k]?) (ap:w.heap.size≤w'.heap.size) (aq:w'.os=w.os) (af:w'.tape=w.tape) (aj:w'.output=w.output)
  (ak:∀ k o,(k,o)∈adds→Wa Γ' w' I F A k o)
  (al:∀ i j o o' b,(i,o)∈adds→(j,o')∈adds→Blk Γ' w' i o b→Blk Γ' w' j o' b→i=j)
  (ag:∀ k o b,(k,o)∈adds→Blk Γ' w' k o b→w.heap.size≤b)
  (ad:∀ k,U k→Γ' k=Γ k)
  (ae:∀ id,¬U' id→Γ' id=none) (am:Rep Γ' w' I v u) (an:Xb nt dst=true) :
  UZ nt F A I Γ w U' (Zt sl dst v) (Zh hp adds) (a.put dst u) w':=by
 have aa:ZR I I w w':=⟨fun _ h=>h,fun b hI=>ab b (h.bound b hI)⟩
 have ao:∀ id o,lkp hp id=some o→Γ' id=Γ id:=fun id o hl=>ad id (h.id_in hl);have back:∀ id o b,lkp hp id=some o→Blk Γ' w' id o b→Blk Γ w id o b:=fun id o b hl hb=>hb.back (ao id o hl) fun g hg=>ab g (h.blk_lt hl (.inl hg));refine⟨I,Γ',fun id b hg=>hk _ _ hg,aa,fun _ h=>.inl h,⟨aq,af,aj,ap,fun k hk _=>ab k hk⟩,?_⟩;refine h.next hk aa ?_ ?_ (fun b hI=>by have:=h.bound b hI;omega) ap ae am an
 ·intro id o hl;rcases Zbc adds hp id o hl with hm | hm
  ·exact ak id o hm
  ·exact(h.objs id o hm).mono hk aa fun b hb=>⟨ab b (h.blk_lt hm hb),fun h=>h⟩
 ·intro i j o o' b hi hj ah ai;rcases Zbc adds hp i o hi with hi | hi<;>rcases Zbc adds hp j o' hj with hj | hj
  ·exact al i j o o' b hi hj ah ai
  ·have h1:=ag i o b hi ah;have h2:=h.blk_lt hj (back j o' b hj ai);omega
  ·have h1:=ag j o' b hj ai;have h2:=h.blk_lt hi (back i o b hi ah);omega
  ·exact h.inj i j o o' b hi hj (back i o b hi ah) (back j o' b hj ai)
theorem ZBo (w:World) (I F A:Nat→Prop) (hi:Nat):∀ (slc:List (Option Nat)) (cs:List AV) (vs:List Value) (b:Nat) (Γ:Gh),QZ b hi (mat slc cs b).2=true→(∀ id,b≤id→id<hi→Γ id=none)→Zu (XO Γ w I) cs vs →
  ∃ Γ',Q9 Γ Γ'∧(∀ k,k<b∨hi≤k→Γ' k=Γ k)∧(∀ k o,(k,o)∈(mat slc cs b).2→b≤k∧Wa Γ' w I F A k o∧ZB (Γ' k)=none)∧Zu (XO Γ' w I) (mat slc cs b).1 vs:=by
 intro slc cs
 induction cs generalizing slc with
 | nil=>
  intro vs b Γ ae hn h;have hm:mat slc [] b=([],[]):=by cases slc<;>simp[mat]<;>(rename_i x _;cases x<;>simp[mat])
  rw[hm];exact⟨Γ,Q9.refl Γ,fun _ _=>rfl,fun k o aa=>by simp at aa,h⟩
 | cons c cs ih=>
  intro vs b Γ ae hn h;cases vs with
  | nil=>exact h.elim
  | cons v vs=>
   have skip:∀ ab,mat slc (c :: cs) b=(c :: (mat ab cs b).1,(mat ab cs b).2)→∃ Γ',Q9 Γ Γ'∧(∀ k,k<b∨hi≤k→Γ' k=Γ k) ∧
     (∀ k o,(k,o)∈(mat slc (c :: cs) b).2→b≤k∧Wa Γ' w I F A k o∧ZB (Γ' k)=none)∧Zu (XO Γ' w I) (mat slc (c :: cs) b).1 (v :: vs):=by
    intro ab he;rw[he] at ae;obtain⟨Γ',h1,h2,h3,h5⟩:=ih ab vs b Γ ae hn h.2;rw[he];exact⟨Γ',h1,h2,h3,h.1.mono h1 (ZR.refl I w),h5⟩
   cases slc with
   | nil=>
    have he:mat [] (c :: cs) b=(c :: cs,[]):=by cases c<;>simp[mat]
    rw[he];exact⟨Γ,Q9.refl Γ,fun _ _=>rfl,fun k o aa=>by simp at aa,h⟩
   | cons s slc=>
    by_cases hc:∃ s',s=some s'∧c=.nil
    ·obtain⟨s',rfl,rfl⟩:=hc;obtain⟨ad,hv⟩:∃ ad,v=.slice ad 0 0:=h.1;have he:mat (some s' :: slc) (.nil :: cs) b=(.own b :: (mat slc cs (b+1)).1,(b,.row s' [] true false) :: (mat slc cs (b+1)).2):=by simp[mat]
     rw[he] at ae;simp only[QZ,Kf,Ko] at ae;have af : ∀ id,b+1≤id→id<hi→upd Γ b (.row ad 0 0 s') id=none:=fun id ah ag=>by rw[Qj _ _ (by omega)];exact hn id (by omega) ag
     have hk:=Vn (.row ad 0 0 s') (hn b (Kt b) ae.1.2);obtain⟨Γ',h1,h2,h3,h5⟩:=ih slc vs (b+1) (upd Γ b (.row ad 0 0 s')) ae.2 af (h.2.mono fun _ _ h=>h.mono hk (ZR.refl I w));have hb:Γ' b=some (.row ad 0 0 s'):=h1 _ _ (ZK _ _ _);rw[he];refine⟨Γ',fun id r hr=>h1 _ _ (hk _ _ hr),fun k ai=>by rw[h2 k (by omega),Qj _ _ (by omega)],?_,⟨ad,0,0,s',hb,hv⟩,h5⟩;intro k o aa;rcases Kd.1 aa with aa | aa
     ·cases aa;exact⟨Kt _,⟨ad,0,0,hb,rfl,.inl ⟨rfl,rfl⟩⟩,by rw[hb];cases ad<;>simp[ZB]⟩
     ·obtain⟨h6,h7⟩:=h3 k o aa;exact⟨by omega,h7⟩
    ·refine skip slc ?_;cases s with
     | none=>cases c<;>simp[mat]
     | some s'=>cases c<;>first | (exact absurd ⟨s',rfl,rfl⟩ hc) | simp[mat]
end
end Go.Abs
