/- The abstract semantics and the model: rows whose nested rows are their own. Own text. -/
import Derived.Test.YtkdjbefmiiibpaaGreatDoorAbsStep9
set_option linter.unusedVariables false
set_option linter.unusedSimpArgs false
namespace Go.Abs
open Go
section
variable {P:Program} {nt:Nat} {U:Nat→Prop} {F A I:Nat→Prop} {Γ:Gh} {sl:Sl} {hp:Hp} {a:Act} {w:World}
theorem Sim.takes (h:Sim nt F A I Γ U sl hp a w) {base:Nat} (hb:Yd U base) {dels:List Nat} {o1:Zo} {r:Ref} {w' : World} (hsz:w.heap.size≤w'.heap.size) (hos:w'.os=w.os) (htape:w'.tape=w.tape) (hout:w'.output=w.output)
  (hext:∀ k,k<w.heap.size→w'.heap[k]?=w.heap[k]?∨(∃ id∈dels,∃ o,lkp hp id=some o∧Blk Γ w id o k)∧¬I k)
  (ho1:W1 (upd Γ base r) w' I F A base o1) {v:AV} {u:Value} {dst:Option Nat} (hrep:Rep (upd Γ base r) w' I v u) (hdst:XI nt dst=true)
  (hnew:∀ b,Blk (upd Γ base r) w' base o1 b→w.heap.size≤b∨∃ id∈dels,∃ o,lkp hp id=some o∧Blk Γ w id o b) :
  JX nt F A I Γ w (Za3 U base) (Zw sl dst v) (Zg (QH hp dels) [(base,o1)]) (a.put dst u) w':=by
 have hkeep:Z3 I I w w':=⟨fun _ h=>h,fun b hb'=>(hext b (h.bound b hb')).elim id fun hh=>absurd hb' hh.2⟩
 have hk:XA Γ (upd Γ base r):=Wq _ (h.names base hb.self)
 have hF:∀ k,k<w.heap.size→¬F k→w'.heap[k]?=w.heap[k]?:=fun k hk hf=>(hext k hk).elim id fun ⟨⟨id,_,o,hl,hbb⟩,_⟩=>absurd (Zkf (h.objs id o hl) hbb) hf
 refine⟨I,upd Γ base r,fun id b hg=>hk _ _ hg,hkeep,fun _ h=>.inl h,⟨hos,htape,hout,hsz,hF⟩,?_⟩
 have mem:∀ i o,lkp (Zg (QH hp dels) [(base,o1)]) i=some o→(i=base∧o=o1)∨(i≠base∧i∉dels∧lkp hp i=some o):=by
  intro i o hi
  simp only[Zg,Qy] at hi
  split at hi
  ·rename_i e;cases hi;exact .inl ⟨e.symm,rfl⟩
  ·rename_i e
   obtain⟨h1,h2⟩:=ZbN _ _ _ _ hi
   exact .inr ⟨fun e'=>e e'.symm,h2,h1⟩
 have stay:∀ i o b,i∉dels→lkp hp i=some o→Blk Γ w i o b→w'.heap[b]?=w.heap[b]?:=fun i o b hn hl hbb=>
  (hext b (h.blk_lt hl hbb)).elim id fun ⟨⟨id,hid,o',hl',hb'⟩,_⟩=>absurd (h.inj i id o o' b hl hl' hbb hb' ▸ hid) hn
 have old:∀ i o b,i≠base→i∉dels→lkp hp i=some o→Blk (upd Γ base r) w' i o b→Blk Γ w i o b:=fun i o b h1 h2 h3 h4=>
  h4.back (Qv _ _ h1) fun g' hg'=>stay i o g' h2 h3 (.inl hg')
 refine h.next hk hkeep ?_ ?_ (fun b hI=>by have:=h.bound b hI;omega) hsz (fun k hk'=>by rw[Qv _ _ (fun e=>hk' (.inr (by omega)))];exact h.names k (fun hu=>hk' (.inl hu))) hrep hdst
 ·intro i o hi
  rcases mem i o hi with ⟨rfl,rfl⟩ | ⟨hne,hne',hm⟩
  ·exact ho1
  ·exact(h.objs i o hm).mono hk hkeep fun b hbb=>⟨stay i o b hne' hm hbb,fun h=>h⟩
 ·have apart:∀ j o' b,j∉dels→lkp hp j=some o'→Blk Γ w j o' b→Blk (upd Γ base r) w' base o1 b→False:=by
   intro j o' b hj hl hbb hn
   rcases hnew b hn with h1 | ⟨id,hid,o,h1,h2⟩
   ·have:=h.blk_lt hl hbb;omega
   ·exact hj (h.inj j id o' o b hl h1 hbb h2 ▸ hid)
  intro i j o o' b hi hj hbi hbj
  rcases mem i o hi with ⟨rfl,rfl⟩ | ⟨hi1,hi2,hi3⟩<;>rcases mem j o' hj with ⟨rfl,rfl⟩ | ⟨hj1,hj2,hj3⟩
  ·rfl
  ·exact(apart j o' b hj2 hj3 (old j o' b hj1 hj2 hj3 hbj) hbi).elim
  ·exact(apart i o b hi2 hi3 (old i o b hi1 hi2 hi3 hbi) hbj).elim
  ·exact h.inj i j o o' b hi3 hj3 (old i o b hi1 hi2 hi3 hbi) (old j o' b hj1 hj2 hj3 hbj)
def Cks (w:World) (I F A:Nat→Prop) (ns sz:Nat) (xs:List D) (os:List (List Value)):Prop:=Zz (fun x vs=>vs.length=sz∧Zz (UC w I F A ns) x.cells vs) xs os
theorem Cks.length_flatten {ns sz:Nat}:∀ {xs:List D} {cs:List (List Value)},Cks w I F A ns sz xs cs→cs.flatten.length=xs.length*sz
 | [],[],_=>by simp
 | [],_ :: _,h=>h.elim
 | _ :: _,[],h=>h.elim
 | x :: xs,c :: cs,h=>by
  simp only[List.flatten_cons,List.length_append,List.length_cons,Cks.length_flatten (xs:=xs) h.2,h.1.1,Nat.add_mul];omega
theorem Cks.cell {ns sz:Nat} {xs:List D} {cs:List (List Value)} (h:Cks w I F A ns sz xs cs):∀ v∈cs.flatten,∃ y,UC w I F A ns y v:=by
 intro v hv
 obtain⟨c,hc,hv⟩:=List.mem_flatten.1 hv
 obtain⟨i,hi⟩:=List.getElem?_of_mem hc
 obtain⟨d,_,hd⟩:=Zz.get' h i c hi
 obtain⟨j,hj⟩:=List.getElem?_of_mem hv
 obtain⟨d',hd',h1⟩:=hd.2.get' j v hj
 exact⟨d',h1⟩
theorem Cks.conv {ns sz:Nat} {I' F' A' : Nat→Prop} {w' : World}:∀ {xs:List D} {cs:List (List Value)},Cks w I F A ns sz xs cs→(∀ v∈cs.flatten,∀ y,UC w I F A ns y v→UC w' I' F' A' ns y v)→Cks w' I' F' A' ns sz xs cs
 | [],[],_,_=>trivial
 | [],_ :: _,h,_=>h.elim
 | _ :: _,[],h,_=>h.elim
 | x :: xs,c :: cs,h,hc=>by
  refine⟨⟨h.1.1,Zz.of_get h.1.2.length fun j y v hy hv=>?_⟩,Cks.conv h.2 fun v hv=>hc v (by simp only[List.flatten_cons,List.mem_append];exact .inr hv)⟩
  obtain⟨v',hv',hn⟩:=h.1.2.get j y hy
  rw[hv] at hv';cases hv'
  exact hc v (by simp only[List.flatten_cons,List.mem_append];exact .inl (List.mem_of_getElem? hv)) y hn
theorem ZyQ {ns:Nat} {y:D} {v:Value} (h:UC w I F A ns y v):v.oneCell'=true:=by
 cases y with
 | sl ys=>obtain⟨a,c,rfl,_⟩:=h;rfl
 | int k n=>obtain⟨_,h2⟩:=h;simp[Z2] at h2;subst h2;rfl
 | bool k=>obtain⟨_,h2⟩:=h;simp[Z2] at h2;subst h2;rfl
 | str k=>obtain⟨_,h2⟩:=h;simp[Z2] at h2;obtain⟨t,h2,_⟩:=h2;subst h2;rfl
 | agg cs=>exact absurd h.1 (by simp[D.plain])
def Dis (L:List Value):Prop:=∀ (p q b:Nat) (u v:Value),L[p]?=some u→L[q]?=some v→VC u=some b→VC v=some b→p=q
theorem Zug {g n c sz ns:Nat} {xs:List D} (h:Zec w I F A (some ⟨g,0,none⟩) n c sz ns xs) (hc:c≠0) :
  ∃ os,Cks w I F A ns sz xs os∧Q4 w g 0 os.flatten∧Dis os.flatten∧(∀ (p:Nat) (u:Value),os.flatten[p]?=some u→VC u≠some g)∧∀ (p:Nat) (u:Value) (b:Nat),os.flatten[p]?=some u→VC u=some b→p<xs.length*sz∧VN w g p=some b:=by
 have hel:∃ os,Cks w I F A ns sz xs os∧Q4 w g 0 os.flatten:=by
  have h' : ∀ i x,xs[i]?=some x→∃ vs:List Value,vs.length=sz∧Q4 w g (i*sz) vs∧Zz (UC w I F A ns) x.cells vs:=by
   intro i x hx
   obtain⟨g',vs,hg,h1⟩:=ZdN h hx
   cases hg
   exact⟨vs,h1⟩
  have go:∀ (xs:List D) (o:Nat),(∀ i x,xs[i]?=some x→∃ vs:List Value,vs.length=sz∧Q4 w g (o+i*sz) vs∧Zz (UC w I F A ns) x.cells vs)→∃ os,Cks w I F A ns sz xs os∧Q4 w g o os.flatten:=by
   intro xs
   induction xs with
   | nil=>intro o _;exact⟨[],trivial,fun j u hu=>by simp at hu⟩
   | cons x xs ih=>
    intro o hx
    obtain⟨c,h1,h2,h3⟩:=hx 0 x (by simp)
    obtain⟨cs,h5,h6⟩:=ih (o+sz) fun i y hy=>by
     obtain⟨vs,h7,h8,h9⟩:=hx (i+1) y (by simpa using hy)
     refine⟨vs,h7,?_,h9⟩
     have:o+(i+1)*sz=o+sz+i*sz:=by rw[Nat.add_mul];omega
     rw[← this];exact h8
    refine⟨c :: cs,⟨⟨h1,h3⟩,h5⟩,fun j u hu=>?_⟩
    simp only[List.flatten_cons,List.getElem?_append] at hu
    split at hu
    ·have:=h2 j u hu;simpa using this
    ·have:=h6 _ u hu
     have he:o+sz+(j-c.length)=o+j:=by omega
     rw[← he];exact this
  obtain⟨os,h1,h2⟩:=go xs 0 fun i x hx=>by obtain⟨vs,h1,h2,h3⟩:=h' i x hx;exact⟨vs,h1,by simpa using h2,h3⟩
  exact⟨os,h1,h2⟩
 obtain⟨os,h1,h2⟩:=hel
 have hlen:=h1.length_flatten
 have hnest:∀ p u b,os.flatten[p]?=some u→VC u=some b→p<xs.length*sz∧VN w g p=some b:=fun p u b hu hb=>by
  have:=h2 p u hu
  exact⟨by rw[← hlen];exact(List.getElem?_eq_some_iff.1 hu).1,ZjJ (by simpa using this) hb⟩
 obtain⟨hn,h3⟩:=h
 rcases h3 with h3 | ⟨g',cur,e,hg',hc0,hw,h4,h5,h6,hpos,h8,hFg,hel,hdis,hne⟩
 ·exact absurd h3.2 hc
 ·cases hg'
  rw[hn] at hdis hne
  exact⟨os,h1,h2,fun p q b u v hu hv hbu hbv=>hdis p q b (hnest p u b hu hbu).1 (hnest q v b hv hbv).1 (hnest p u b hu hbu).2 (hnest q v b hv hbv).2,
   fun p u hu hb=>hne p (hnest p u g hu hb).1 (hnest p u g hu hb).2,hnest⟩
theorem ZrG {g n c sz ns:Nat} {xs:List D} {cur:Array Value} {e:TypeId} (hn:n=xs.length) (hc:0<c) (hheap:w.heap[g]?=some (.cells cur e (0,0))) (hnc:n≤c) (hcm:c≤maxLen) (hcs:cur.size=c*sz) (hpos:0<sz) (hgI:¬I g) (hgF:F g)
  {os:List (List Value)} (hck:Cks w I F A ns sz xs os) (hat:Q4 w g 0 os.flatten) (hd:Dis os.flatten) (hne:∀ (p:Nat) (u:Value),os.flatten[p]?=some u→VC u≠some g):Zec w I F A (some ⟨g,0,none⟩) n c sz ns xs:=by
 have hlen:=hck.length_flatten
 have hnest:∀ p b,p<n*sz→VN w g p=some b→∃ u,os.flatten[p]?=some u∧VC u=some b:=by
  intro p b hp hb
  obtain⟨u,hu⟩:∃ u,os.flatten[p]?=some u:=⟨_,List.getElem?_eq_getElem (by rw[hlen,← hn];exact hp)⟩
  refine⟨u,hu,?_⟩
  have:=hat p u hu
  simp only[Nat.zero_add] at this
  unfold VN at hb
  rw[this] at hb
  exact hb
 refine⟨hn,.inr ⟨g,cur,e,rfl,hc,hheap,hnc,hcm,hcs,hpos,hgI,hgF,?_,?_,?_⟩⟩
 ·have go:∀ (xs:List D) (os:List (List Value)) (o:Nat),Cks w I F A ns sz xs os→Q4 w g o os.flatten→∀ i x,xs[i]?=some x→∃ vs:List Value,vs.length=sz∧Q4 w g (o+i*sz) vs∧Zz (UC w I F A ns) x.cells vs:=by
   intro xs
   induction xs with
   | nil=>intro os o _ _ i x hx;simp at hx
   | cons y xs ih=>
    intro os o hk hat i x hx
    cases os with
    | nil=>exact hk.elim
    | cons c os=>
     have h1:Q4 w g o c:=fun j u hu=>hat j u (by simp only[List.flatten_cons];rw[List.getElem?_append_left (List.getElem?_eq_some_iff.1 hu).1];exact hu)
     have h2:Q4 w g (o+sz) os.flatten:=fun j u hu=>by
      have:=hat (c.length+j) u (by simp only[List.flatten_cons];rw[List.getElem?_append_right (by omega),Nat.add_sub_cancel_left];exact hu)
      rw[← Nat.add_assoc,hk.1.1] at this
      exact this
     cases i with
     | zero=>simp at hx;subst hx;exact⟨c,hk.1.1,by simpa using h1,hk.1.2⟩
     | succ i=>
      simp at hx
      obtain⟨vs,h3,h4,h5⟩:=ih os (o+sz) hk.2 h2 i x hx
      refine⟨vs,h3,?_,h5⟩
      have:o+(i+1)*sz=o+sz+i*sz:=by rw[Nat.add_mul];omega
      rw[this];exact h4
  intro i x hx
  obtain⟨vs,h1,h2,h3⟩:=go xs os 0 hck hat i x hx
  exact⟨vs,h1,by simpa using h2,h3⟩
 ·intro p q b hp hq h1 h2
  obtain⟨u,hu,hub⟩:=hnest p b hp h1
  obtain⟨v,hv,hvb⟩:=hnest q b hq h2
  exact hd p q b u v hu hv hub hvb
 ·intro p hp h1
  obtain⟨u,hu,hub⟩:=hnest p g hp h1
  exact hne p u hu hub
theorem Zuh (h:Sim nt F A I Γ U sl hp a w) {ns:Nat}:∀ {cs:List AV} {vs:List Value} {q:List D×List Nat},Zz (Wk Γ w I) cs vs→ZgA hp ns cs=some q →
  Zz (UC w I F A ns) q.1 vs∧Dis vs∧∀ (p:Nat) (u:Value) (b:Nat),vs[p]?=some u→VC u=some b→∃ id∈q.2,∃ o,lkp hp id=some o∧Blk Γ w id o b
 | [],[],q,_,hq=>by
  simp only[ZgA] at hq;cases hq
  exact⟨trivial,fun p q b u v hu=>by simp at hu,fun p u b hu=>by simp at hu⟩
 | [],_ :: _,_,h,_=>h.elim
 | _ :: _,[],_,h,_=>h.elim
 | x :: cs,v :: vs,q,hr,hq=>by
  simp only[ZgA] at hq
  obtain⟨q1,h1,hq⟩:=Za hq
  obtain⟨q2,h2,hq⟩:=Za hq
  split at hq
  ·rename_i hc
   cases hq
   obtain⟨k1,k2,k3⟩:=Zuh h hr.2 h2
   have key:UC w I F A ns q1.1 v∧∀ b,VC v=some b→∃ id∈q1.2,∃ o,lkp hp id=some o∧Blk Γ w id o b:=by
    have hv:=hr.1
    unfold Zfg at h1
    split at h1
    ·rename_i y
     split at h1
     ·rename_i hy
      cases h1
      obtain⟨_,hv2⟩:=hv
      have:UC w I F A ns y v:=by cases y<;>first | exact⟨hy,hv2⟩ | (simp[D.plain] at hy)
      refine⟨this,fun b hb=>?_⟩
      obtain⟨ys,_,_,e,_⟩:=Zse this hb
      subst e
      simp[D.plain] at hy
     ·cases h1
    ·cases h1
     obtain⟨ad,rfl⟩:=hv
     refine⟨⟨ad,0,rfl,⟨rfl,.inl ⟨rfl,rfl⟩⟩,rfl⟩,fun b hb=>?_⟩
     cases ad<;>simp[VC] at hb
    ·rename_i id
     unfold Zfg.deepRow at h1
     split at h1
     ·rename_i sz ys hl
      split at h1
      ·rename_i hcond
       obtain⟨rfl,hfl⟩:=hcond
       cases h1
       obtain⟨ad,n,c,sz',hg,rfl⟩:=hv
       obtain⟨ad',n',c',hg',hro⟩:=h.objs id _ hl
       rw[hg] at hg';cases hg'
       have hn:=hro.1
       subst hn
       refine⟨⟨ad,c,rfl,hro,hfl⟩,fun b hb=>⟨id,by simp,_,hl,.inl ?_⟩⟩
       rw[hg]
       cases ad with
       | none=>simp[VC] at hb
       | some ad=>simpa [VC,ZG] using hb
      ·cases h1
     ·cases h1
    ·cases h1
   refine⟨⟨key.1,k1⟩,?_,?_⟩
   ·have cross:∀ (p b:Nat) (u:Value),vs[p]?=some u→VC v=some b→VC u=some b→False:=by
     intro p b u hu hb hb'
     obtain⟨id,hid,o,hl,hbb⟩:=key.2 b hb
     obtain⟨id',hid',o',hl',hbb'⟩:=k3 p u b hu hb'
     have:=h.inj id id' o o' b hl hl' hbb hbb'
     subst this
     simp only[Bool.not_eq_true'] at hc
     have:(q1.2.any q2.2.contains)=true:=List.any_eq_true.2 ⟨id,hid,by simpa using hid'⟩
     rw[this] at hc;cases hc
    intro p p' b u u' hu hu' hb hb'
    cases p<;>cases p'
    ·rfl
    ·simp at hu hu';subst hu;exact(cross _ b u' hu' hb hb').elim
    ·simp at hu hu';subst hu';exact(cross _ b u hu hb' hb).elim
    ·simp at hu hu';rw[k2 _ _ b u u' hu hu' hb hb']
   ·intro p u b hu hb
    cases p with
    | zero=>
     simp at hu;subst hu
     obtain⟨id,hid,hh⟩:=key.2 b hb
     exact⟨id,by simp[hid],hh⟩
    | succ p=>
     simp at hu
     obtain⟨id,hid,hh⟩:=k3 p u b hu hb
     exact⟨id,by simp[hid],hh⟩
  ·cases hq
theorem Zv8 (h:Sim nt F A I Γ U sl hp a w) {o:Oper} {t e:TypeId} {n ns:Nat} {ps:Array (Nat×Operand)} {ys:List Opd} (ho:o.op=.buildSlice t n ps) (he:VD P t=some e)
  (hys:Q6 (fun q:Nat×Operand=>Qd q.2) ps.toList=some ys) (hps:ps.toList.map (·.1)=List.range n) (hbig:n*P.cellsOf e≤16777216) (hok:Zaq P e=true) {base:Nat} (hb:Yd U base) (hd:XI nt o.dst=true)
  {ce:Zc} (hv:buildDp hp base (P.cellsOf e) ns (evL sl ys)=some ce):ZgL P nt F A I Γ U sl hp a w o base ce:=by
 obtain⟨i,z,hi,hz,hzs,hpos,hcells,hbytes⟩:=WE hok
 have hr:∀ {ps:List (Nat×Operand)} {ys:List Opd},Q6 (fun q:Nat×Operand=>Qd q.2) ps=some ys→Zz (Rep Γ w I) (evL sl ys) (ps.map fun x=>a.eval x.2):=by
  intro ps
  induction ps with
  | nil=>intro ys hy;simp only[Q6] at hy;cases hy;exact trivial
  | cons p ps ih=>
   intro ys hy
   simp only[Q6] at hy
   obtain⟨y,h1,hy⟩:=Za hy
   obtain⟨ys',h2,hy⟩:=Za hy
   cases hy
   exact⟨h.slOK.ev h1,ih h2⟩
 have hall:=hr hys
 have hn:n=ps.toList.length:=by have:=congrArg List.length hps;simpa using this.symm
 unfold buildDp at hv
 split at hv
 ·rename_i cs hcs
  rw[hcs] at hall
  obtain⟨q,h1,hv⟩:=Za hv
  split at hv
  ·rename_i hlen
   cases hv
   have hone:ps.toList.map (fun x=>a.eval x.2)=[a.eval (ps.toList.headD (0,.const .nilIface)).2]∧n=1:=by
    cases hp' : ps.toList with
    | nil=>rw[hp'] at hall;exact hall.elim
    | cons p r=>cases r with
     | nil=>rw[hp'] at hn;exact⟨rfl,hn⟩
     | cons _ _=>rw[hp'] at hall;exact hall.2.elim
   obtain⟨hone,rfl⟩:=hone
   generalize a.eval (ps.toList.headD (0,.const .nilIface)).2=u0 at hone
   have hrun:=ZnJ (w:=w) (a:=a) ho he hps hbig hok
   rw[hone] at hall hrun
   obtain⟨vs,rfl,hvs⟩:=hall.1
   obtain⟨k1,k2,k3⟩:=Zuh h hvs h1
   have hvl:vs.toList.length=P.cellsOf e:=by rw[← hlen];exact k1.length.symm
   obtain⟨cells,h2,h3,h4⟩:=hrun (by intro v hv;simp at hv;subst hv;simpa [Value.cells] using hvl)
   simp only[List.map_cons,List.map_nil,List.flatten_cons,List.flatten_nil,List.append_nil,Value.cells] at h4
   refine⟨_,_,.inl h2,?_⟩
   rw[Yl]
   have hw' : (w.alloc (.cells cells e)).heap[w.heap.size]?=some (.cells cells e (0,0)):=heap_alloc_new w _
   have hext:∀ k,k<w.heap.size→(w.alloc (.cells cells e)).heap[k]?=w.heap[k]?:=fun k hk=>V2 w _ k hk
   have hlt:∀ (p:Nat) (u:Value) (b:Nat),vs.toList[p]?=some u→VC u=some b→b<w.heap.size:=fun p u b hu hb=>by
    obtain⟨id,_,o,hl,hbb⟩:=k3 p u b hu hb
    exact h.blk_lt hl hbb
   have hcks:Cks (w.alloc (.cells cells e)) I F A ns (P.cellsOf e) [.agg q.1] [vs.toList]:=by
    refine⟨⟨hvl,Zz.of_get k1.length fun j y v hy hv=>?_⟩,trivial⟩
    obtain⟨v',hv',hn⟩:=k1.get j y hy
    rw[hv] at hv';cases hv'
    exact hn.mono ⟨fun _ h=>h,fun b hb=>hext b (h.bound b hb)⟩ fun b hb=>⟨hext b (hlt j v b hv hb),fun h=>h⟩
   have hfl:[vs.toList].flatten=vs.toList:=by simp
   have hat:Q4 (w.alloc (.cells cells e)) w.heap.size 0 vs.toList:=fun j u hu=>by
    rw[cell_of_row _ _ _ _ _ _ hw']
    simpa using h4 j u hu
   refine h.takes hb (w':=w.alloc (.cells cells e)) (dels:=q.2) (r:=.row (some ⟨w.heap.size,0,none⟩) 1 1 (P.cellsOf e)) (by simp) rfl rfl rfl (fun k hk=>.inl (hext k hk)) ?_ ⟨_,_,_,_,ZR _ _ _,rfl⟩ hd ?_
   ·refine⟨_,1,1,ZR _ _ _,ZrG rfl (by omega) hw' (Nat.le_refl _) (by simp[maxLen]) h3 (by omega) (fun hi=>absurd (h.bound _ hi) (by omega)) (h.fresh _ (Nat.le_refl _)) hcks (by rw[hfl];exact hat) (by rw[hfl];exact k2) (fun p u hu hb=>?_),trivial⟩
    rw[hfl] at hu
    have:=hlt p u _ hu hb
    omega
   ·intro b hb'
    rcases hb' with hb' | ⟨g,p,hg,hp',hnb⟩ | hb'
    rotate_right
    ·exact hb'.elim
    ·rw[ZR] at hb'
     simp[ZG] at hb'
     omega
    ·rw[ZR] at hg
     simp[ZG] at hg
     subst hg
     have hp'' : p<vs.toList.length:=by rw[hvl];simpa using hp'
     have:=hat p _ (List.getElem?_eq_getElem hp'')
     simp only[Nat.zero_add] at this
     unfold VN at hnb
     rw[this] at hnb
     exact .inr (k3 p _ b (List.getElem?_eq_getElem hp'') hnb)
  ·cases hv
 ·cases hv
theorem ZAs (h:Sim nt F A I Γ U sl hp a w) {o:Oper} {x:Operand} {y:Opd} {s n:Nat} (ho:o.op=.assign x) (hc:Qd x=some y) {base:Nat} (hb:Yd U base) (hd:XI nt o.dst=true) {ce:Zc}
  (hv:asgDp base s n (evO sl y)=some ce):ZgL P nt F A I Γ U sl hp a w o base ce:=by
 unfold asgDp at hv
 split at hv
 ·rename_i hy
  cases hv
  have h1:=h.slOK.ev hc
  rw[hy] at h1
  obtain⟨ad,h2⟩:=h1
  refine⟨a.eval x,w,.inl (by simp[execOp,ho]),?_⟩
  rw[Yl,h2]
  refine h.takes hb (w':=w) (dels:=[]) (r:=.row ad 0 0 s) (Nat.le_refl _) rfl rfl rfl (fun k _=>.inl rfl) ?_ ⟨_,_,_,_,ZR _ _ _,rfl⟩ hd fun b hb'=>?_
  ·exact⟨_,_,_,ZR _ _ _,⟨rfl,.inl ⟨rfl,rfl⟩⟩,trivial⟩
  ·exact(hb'.nil (by rw[ZR];cases ad<;>simp[ZG])).elim
 ·cases hv
end
end Go.Abs
