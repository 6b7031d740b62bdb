/- The abstract semantics and the model: new rows,aggregates built. Own text. -/
import Derived.Test.YtkdjbefmiiibpaaGreatDoorAbsStep2
set_option linter.unusedVariables false
set_option linter.unusedSimpArgs false
namespace Go.Abs
open Go
def Qc (w:World) (S:Nat→Prop) (sz:Nat) (xs:List D) (cs:List (List Value)):Prop:=Zz (fun d c=>c.length=sz∧Z2 w S d c) xs cs
section
variable {w:World} {S:Nat→Prop} {sz:Nat}
theorem Xm {b:Nat}:∀ {xs:List D} {cs:List (List Value)} {o:Nat},Qc w S sz xs cs→Q4 w b o cs.flatten→ZaS w S b sz xs o
 | [],[],_,_,_=>by simp[ZaS]
 | [],_ :: _,_,h,_=>h.elim
 | _ :: _,[],_,h,_=>h.elim
 | x :: xs,c :: cs,o,h,hat=>by
  simp only[List.flatten_cons] at hat
  simp only[ZaS]
  refine⟨⟨c,h.1.1,?_,h.1.2⟩,Xm h.2 ?_⟩
  ·have:=hat.take c.length;simpa using this
  ·have:=hat.drop c.length;simpa [h.1.1] using this
theorem Xn {b:Nat}:∀ {xs:List D} {o:Nat},ZaS w S b sz xs o→∃ cs,Qc w S sz xs cs∧Q4 w b o cs.flatten
 | [],o,_=>⟨[],trivial,fun j u hu=>by simp at hu⟩
 | x :: xs,o,h=>by
  simp only[ZaS] at h
  obtain⟨⟨c,h1,h2,h3⟩,h4⟩:=h
  obtain⟨cs,h5,h6⟩:=Xn h4
  refine⟨c :: cs,⟨⟨h1,h3⟩,h5⟩,fun j u hu=>?_⟩
  simp only[List.flatten_cons,List.getElem?_append] at hu
  split at hu
  ·exact h2 j u hu
  ·have:=h6 _ u hu
   have he:o+sz+(j-c.length)=o+j:=by omega
   rw[← he];exact this
theorem Qc.length_flatten:∀ {xs:List D} {cs:List (List Value)},Qc w S sz xs cs→cs.flatten.length=xs.length*sz
 | [],[],_=>by simp
 | [],_ :: _,h=>h.elim
 | _ :: _,[],h=>h.elim
 | x :: xs,c :: cs,h=>by
  simp only[List.flatten_cons,List.length_append,List.length_cons,Qc.length_flatten (xs:=xs) h.2,h.1.1,Nat.add_mul];omega
theorem Qc.append {xs ys:List D} {cs ds:List (List Value)} (h:Qc w S sz xs cs) (k:Qc w S sz ys ds):Qc w S sz (xs++ys) (cs++ds):=Zz.append h k
theorem Qc.mono {w' : World} {S' : Nat→Prop} (hk:Z3 S S' w w') {xs:List D} {cs:List (List Value)} (h:Qc w S sz xs cs):Qc w' S' sz xs cs:=
 Zz.mono (fun _ _ h=>⟨h.1,h.2.mono hk⟩) h
mutual
theorem ZjL {w' : World} {S' : Nat→Prop}:∀ {d:D} {vs:List Value},d.plain=true→Z2 w S d vs→Z2 w' S' d vs
 | .int _ _,_,_,h=>by simpa [Z2] using h
 | .bool _,_,_,h=>by simpa [Z2] using h
 | .str _,_,_,h=>by simpa [Z2] using h
 | .sl _,_,hp,_=>by simp[D.plain] at hp
 | .agg _,_,hp,_=>by simp[D.plain] at hp
end
theorem ZkP {w' : World} {S' : Nat→Prop}:∀ {ds:List D} {vs:List Value},ZdT D.plain ds=true→Yj w S ds vs→Yj w' S' ds vs
 | [],_,_,h=>by simpa [Yj] using h
 | d :: ds,vs,hp,h=>by
  simp only[ZdT,Bool.and_eq_true] at hp
  simp only[Yj] at h ⊢
  obtain⟨v,r,h1,h2,h3,h4⟩:=h
  exact⟨v,r,h1,h2,ZjL hp.1 h3,ZkP hp.2 h4⟩
theorem ZpN {w' : World} {S' : Nat→Prop} {d:D} {vs:List Value} (hf:d.flat=true) (h:Z2 w S d vs):Z2 w' S' d vs:=by
 cases d with
 | agg cs=>simp only[Z2] at h ⊢;exact ZkP hf h
 | sl xs=>simp[D.flat,D.cells,ZdT,D.plain] at hf
 | _=>exact ZjL rfl h
theorem Zsj {w' : World} {S' : Nat→Prop} {d:D} {v:Value} (hf:d.flat=true) (h:Yq w S d v):Yq w' S' d v:=by
 cases d with
 | agg cs=>obtain⟨vs,h1,h2⟩:=h;exact⟨vs,h1,ZkP hf h2⟩
 | sl xs=>simp[D.flat,D.cells,ZdT,D.plain] at hf
 | _=>simp only[Yq] at h ⊢;exact ZjL rfl h
end
section
variable {P:Program} {nt:Nat} {U:Nat→Prop} {F A I:Nat→Prop} {Γ:Gh} {sl:Sl} {hp:Hp} {a:Act} {w:World}
theorem Sim.sub (h:Sim nt F A I Γ U sl hp a w) {hp' : Hp} (hs:∀ id o,lkp hp' id=some o→lkp hp id=some o):Sim nt F A I Γ U sl hp' a w:=
 { h with objs:=fun id o hl=>h.objs id o (hs id o hl),inj:=fun i j o o' b hi hj=>h.inj i j o o' b (hs _ _ hi) (hs _ _ hj) }
theorem Ztr (h:Sim nt F A I Γ U sl hp a w) {dst:Option Nat} {base:Nat} (hb:Yd U base) (hd:XI nt dst=true) {w' : World}
  (hext:∀ k,k<w.heap.size→w'.heap[k]?=w.heap[k]?) (hsz:w.heap.size≤w'.heap.size) (hos:w'.os=w.os) (htape:w'.tape=w.tape) (hout:w'.output=w.output)
  {n c s:Nat} {e:TypeId} {cur:Array Value} {xs:List D} {ex:Bool} (hheap:w'.heap[w.heap.size]?=some (.cells cur e (0,0))) (hn:n=xs.length) (hnc:n≤c) (hcm:c≤maxLen) (hcs:cur.size=c*s) (h0:0<s)
  (hrep:ZaS w' (if ex then fun b=>I b∧A b else I) w.heap.size s xs 0) :
  JX nt F A I Γ w (Za3 U base) (Zw sl dst (.own base)) (Zg hp [(base,.row s xs ex false)]) (a.put dst (.slice (some ⟨w.heap.size,0,none⟩) n c)) w':=by
 refine h.add (Γ':=upd Γ base (.row (some ⟨w.heap.size,0,none⟩) n c s)) (Wq _ (h.names base hb.self)) hext hsz hos htape hout ?_ ?_ ?_ ?_ ?_ ?_ hd
 ·intro k o' hk
  simp at hk
  obtain⟨rfl,rfl⟩:=hk
  refine⟨_,n,c,ZR _ _ _,hn,?_⟩
  by_cases hc:c=0
  ·exact .inl ⟨by omega,hc⟩
  ·exact .inr ⟨w.heap.size,cur,e,rfl,by omega,hheap,hnc,hcm,hcs,h0,by simp;exact fun hi=>absurd (h.bound _ hi) (by omega),h.fresh _ (Nat.le_refl _),hrep⟩
 ·intro i j o1 o2 b hi hj _ _
  simp at hi hj
  omega
 ·intro k o' b hk hbb
  simp at hk
  obtain⟨rfl,rfl⟩:=hk
  have hbb:=hbb.row
  rw[ZR] at hbb
  obtain⟨ad,h1,h2,h3⟩:=Zsi hbb
  cases h1;rw[← h2];exact Nat.le_refl _
 ·intro k hk;exact Qv _ _ (fun e=>hb.self (e ▸ hk))
 ·intro id hid;rw[Qv _ _ (fun e=>hid (.inr (by omega)))];exact h.names id (fun hu=>hid (.inl hu))
 ·exact⟨_,n,c,s,ZR _ _ _,rfl⟩
theorem Zsk {S:Nat→Prop} {v:Value} {d:D} (h:Zt8 v=some d):d.one=true∧Z2 w S d [v]:=by
 unfold Zt8 at h
 split at h
 ·cases h;exact⟨rfl,by simp[Z2]⟩
 ·cases h;exact⟨rfl,by simp[Z2]⟩
 ·cases h;exact⟨rfl,_,rfl,rfl⟩
 ·cases h;exact⟨rfl,none,0,rfl,Nat.le_refl _,.inl rfl⟩
 ·cases h
theorem ZpO {S:Nat→Prop}:∀ {vs:List Value} {ds:List D},Q6 Zt8 vs=some ds→Yj w S ds vs
 | [],ds,h=>by simp only[Q6] at h;cases h;simp[Yj]
 | v :: vs,ds,h=>by
  simp only[Q6] at h
  obtain⟨d,h1,h⟩:=Za h
  obtain⟨ds',h2,h⟩:=Za h
  cases h
  obtain⟨h3,h4⟩:=Zsk (w:=w) (S:=S) h1
  exact⟨v,vs,rfl,h3,h4,ZpO h2⟩
theorem Zoy {S:Nat→Prop} {z:Value} {d:D} (h:evD z=some d):Z2 w S d z.cells.toList:=by
 cases z with
 | agg cs=>
  simp only[evD] at h
  obtain⟨ds,h1,h⟩:=Za h
  cases h
  exact ZpO h1
 | _=>simp only[evD] at h;exact(Zsk h).2
theorem ZgM (z:Array Value):∀ n,(madeCells z (n*z.size)).toList=(List.replicate n z.toList).flatten:=by
 intro n
 refine List.ext_getElem? fun i=>?_
 have hz:(z.size=0→n*z.size=0):=fun h=>by simp[h]
 by_cases hi:i<n*z.size
 ·have hpos:0<z.size:=by
   rcases Nat.eq_zero_or_pos z.size with h | h
   ·rw[h] at hi;simp at hi
   ·exact h
  have h1:(madeCells z (n*z.size)).toList[i]?=some z[i % z.size]!:=by
   simp[madeCells,hi]
  rw[h1]
  clear h1
  induction n generalizing i with
  | zero=>simp at hi
  | succ n ih=>
   rw[List.replicate_succ,List.flatten_cons,List.getElem?_append]
   split
   ·rename_i h2
    simp at h2
    rw[Nat.mod_eq_of_lt h2]
    simp[h2]
   ·rename_i h2
    simp at h2
    have h3:i-z.size<n*z.size:=by rw[Nat.add_mul] at hi;omega
    have:=ih (i-z.size) (fun h=>by simp[h]) h3
    have hl:z.toList.length=z.size:=by simp
    rw[hl,← this,Nat.mod_eq_sub_mod h2]
 ·rw[List.getElem?_eq_none,List.getElem?_eq_none]
  ·rw[List.length_flatten];simp;omega
  ·simp[madeCells];omega
theorem ZbQ {S:Nat→Prop} {sz:Nat} {d:D} {c:List Value} (hl:c.length=sz) (h:Z2 w S d c):∀ n,Qc w S sz (List.replicate n d) (List.replicate n c)
 | 0=>trivial
 | n+1=>⟨⟨hl,h⟩,ZbQ hl h n⟩
theorem Xq {b:Nat} {cur:Array Value} {e:TypeId} {fr:Nat×Nat} (h:w.heap[b]?=some (.cells cur e fr)) {xs ys:List Value} (hl:cur.toList=xs++ys):Q4 w b 0 xs:=fun j u hu=>by
 refine Zix h j u ?_
 rw[hl,List.getElem?_append_left (List.getElem?_eq_some_iff.1 hu).1]
 exact hu
theorem ZDc (h:Sim nt F A I Γ U sl hp a w) {o:Oper} {t e:TypeId} {l c:Operand} {l' c' : Opd} {z:Value} {d:D} (ho:o.op=.makeSlice t l c) (he:VD P t=some e) (hl:Qd l=some l') (hc:Qd c=some c')
  (hz:Zdo P e=some z) (hzd:evD z=some d) (hok:Zaq P e=true) {base:Nat} (hb:Yd U base) (hd:XI nt o.dst=true) {ce:Zc} {n m:Int} (hn:idx (evO sl l')=some n) (hm:idx (evO sl c')=some m)
  (hv:Zpi base (P.cellsOf e) (P.bytesOf e) d n m=some ce):ZgL P nt F A I Γ U sl hp a w o base ce:=by
 obtain⟨i,z',hi,hz',hzs,hpos,hcells,hbytes⟩:=WE hok
 obtain⟨i',hi',hz''⟩:=Zky hz
 rw[hi] at hi';cases hi'
 rw[hz'] at hz'';cases hz''
 obtain⟨k1,e1⟩:=Zae hn (h.slOK.ev hl)
 obtain⟨k2,e2⟩:=Zae hm (h.slOK.ev hc)
 unfold Zpi at hv
 split at hv
 ·rename_i hcond
  obtain⟨c1,c2,c3,c4,c5⟩:=hcond
  cases hv
  rw[hcells] at c5 ⊢
  rw[hbytes] at c3
  have hr:=run_make (P:=P) w t e i z (Xt he) hi hz' k1 k2 n m c1 c2 (by have h2:=c3;rw[Int.mul_comm] at h2;simp only[QI] at h2;omega) (by simp only[QI] at c4;omega)
  refine⟨.slice (some ⟨w.heap.size,0,none⟩) n.toNat m.toNat,w.alloc (.cells (madeCells z.cells (m.toNat*i.size)) e),.inl (by simp[execOp,ho,e1,e2,hr]),?_⟩
  rw[Yl]
  have hw' : (w.alloc (.cells (madeCells z.cells (m.toNat*i.size)) e)).heap[w.heap.size]?=some (.cells (madeCells z.cells (m.toNat*i.size)) e (0,0)):=heap_alloc_new w _
  refine Ztr h hb hd (V2 w _) (by simp) rfl rfl rfl hw' (by simp) (by omega) (by simp only[QI] at c4;simp only[maxLen];omega) (size_madeCells _ _) hpos ?_
  have hch:Qc (w.alloc (.cells (madeCells z.cells (m.toNat*i.size)) e)) (fun b=>I b∧A b) i.size (List.replicate n.toNat d) (List.replicate n.toNat z.cells.toList):=
   ZbQ (by simp[hzs]) (Zoy hzd) n.toNat
  refine Xm hch ?_
  refine Xq hw' (ys:=(List.replicate (m.toNat-n.toNat) z.cells.toList).flatten) ?_
  rw[← hzs,ZgM,← List.flatten_append,List.replicate_append_replicate]
  congr 2
  omega
 ·cases hv
def ZmY:List Value→Nat→List Value→List Value
 | vs,_,[]=>vs
 | vs,off,u :: r=>ZmY (vs.set off u) (off+1) r
theorem Zsl (off:Nat):∀ (l:List Value) (k:Nat) (vs:Array Value),
  (List.foldl (fun cs (x:Value×Nat)=>cs.setIfInBounds (off+x.2) x.1) vs (l.zipIdx k)).toList=ZmY vs.toList (off+k) l
 | [],k,vs=>by simp[ZmY]
 | u :: l,k,vs=>by
  simp only[List.zipIdx_cons,List.foldl_cons,ZmY]
  rw[Zsl off l (k+1)]
  simp[Nat.add_assoc]
theorem Zye {R:AV→Value→Prop}:∀ {xs:List AV} {us:List Value} {cs:List AV} {vs:List Value} (off:Nat),Zz R xs us→Zz R cs vs→Zz R (Zzj cs off xs) (ZmY vs off us)
 | [],[],_,_,_,_,h=>h
 | [],_ :: _,_,_,_,h,_=>h.elim
 | _ :: _,[],_,_,_,h,_=>h.elim
 | x :: xs,u :: us,cs,vs,off,h,hr=>by
  simp only[Zzj,ZmY]
  exact Zye (off+1) h.2 (hr.set off h.1)
theorem Zsm (off:Nat) (u vs:Array Value):(u.zipIdx.foldl (fun cs (x:Value×Nat)=>cs.setIfInBounds (off+x.2) x.1) vs).toList=ZmY vs.toList off u.toList:=by
 have:=Zsl off u.toList 0 vs
 rw[← Array.foldl_toList,Array.toList_zipIdx]
 simpa using this
theorem ZpP {place:Nat→Option (Nat×Nat)} {pl:Nat→Option (Nat×Nat)} (hpl:∀ i p,pl i=some p→place i=some p) (hs:Zdx Γ w I sl a) :
  ∀ {ps:List (Nat×Operand)} {qs:List (Nat×Nat×Opd)} {cells r:List AV} {vs:Array Value},Q6 (ZuS pl) ps=some qs→Zz (YA Γ w I) cells vs.toList→ZnA cells (evP sl qs)=some r →
   ∃ vs',Instr.fill place vs (ps.map fun x=>(x.1,a.eval x.2))=some vs'∧Zz (YA Γ w I) r vs'.toList
 | [],qs,cells,r,vs,hq,hr,hf=>by
  simp only[Q6] at hq;cases hq
  simp only[evP,ZnA] at hf;cases hf
  exact⟨vs,rfl,hr⟩
 | p :: ps,qs,cells,r,vs,hq,hr,hf=>by
  simp only[Q6] at hq
  obtain⟨q,h1,hq⟩:=Za hq
  obtain⟨qs',h2,hq⟩:=Za hq
  cases hq
  unfold ZuS at h1
  obtain⟨pp,h3,h1⟩:=Za h1
  obtain⟨x,h4,h1⟩:=Za h1
  cases h1
  simp only[evP,ZnA] at hf
  split at hf
  ·rename_i hc
   obtain⟨hsol,hlen,hle⟩:=hc
   have hrc:=Rep.cells hsol (hs.ev h4)
   have hsz:(a.eval p.2).cells.size=pp.2:=by rw[← hlen,hrc.length];simp
   have hcl:cells.length=vs.size:=by rw[hr.length];simp
   obtain⟨vs',h5,h6⟩:=ZpP hpl hs (vs:=(a.eval p.2).cells.zipIdx.foldl (fun cs (x:Value×Nat)=>cs.setIfInBounds (pp.1+x.2) x.1) vs) h2 (by rw[Zsm];exact Zye _ hrc hr) hf
   refine⟨vs',?_,h6⟩
   simp only[List.map_cons,Instr.fill,hpl _ _ h3]
   have c1:¬((a.eval p.2).cells.size≠pp.2):=by simp[hsz]
   have c2:¬(pp.1+(a.eval p.2).cells.size>vs.size):=by omega
   simp only[c1,c2,decide_false,Bool.or_self,Bool.false_eq_true,if_false]
   exact h5
  ·cases hf
end
end Go.Abs
