/- The abstract semantics and the model: new rows,aggregates built. Own text. -/
import Derived.Test.YtemkonmgcoceaaaDoorAbsStep2
set_option linter.unusedVariables false
set_option linter.unusedSimpArgs false
namespace Go.Abs
open Go
def ZJ (w:World) (S:Nat→Prop) (sz:Nat) (xs:List D) (cs:List (List Value)):Prop:=Zm (fun d c=>c.length=sz∧ZD w S d c) xs cs
section
variable {w:World} {S:Nat→Prop} {sz:Nat}
theorem Qt {b:Nat}:∀ {xs:List D} {cs:List (List Value)} {o:Nat},ZJ w S sz xs cs→Qf w b o cs.flatten→VE w S b sz xs o
 | [],[],_,_,_=>by simp[VE]
 | [],_ :: _,_,h,_=>h.elim
 | _ :: _,[],_,h,_=>h.elim
 | x :: xs,c :: cs,o,h,hat=>by
  simp only[List.flatten_cons] at hat
  simp only[VE]
  refine⟨⟨c,h.1.1,?_,h.1.2⟩,Qt h.2 ?_⟩
  ·have:=hat.take c.length;simpa using this
  ·have:=hat.drop c.length;simpa [h.1.1] using this
theorem Qu {b:Nat}:∀ {xs:List D} {o:Nat},VE w S b sz xs o→∃ cs,ZJ w S sz xs cs∧Qf w b o cs.flatten
 | [],o,_=>⟨[],trivial,fun j u hu=>by simp at hu⟩
 | x :: xs,o,h=>by
  simp only[VE] at h
  obtain⟨⟨c,h1,h2,h3⟩,h4⟩:=h
  obtain⟨cs,h5,h6⟩:=Qu h4
  refine⟨c :: cs,⟨⟨h1,h3⟩,h5⟩,fun j u hu=>?_⟩
  simp only[List.flatten_cons,List.getElem?_append] at hu
  split at hu
  ·exact h2 j u hu
  ·have:=h6 _ u hu
   have he:o+sz+(j-c.length)=o+j:=by omega
   rw[← he];exact this
theorem ZJ.length_flatten:∀ {xs:List D} {cs:List (List Value)},ZJ w S sz xs cs→cs.flatten.length=xs.length*sz
 | [],[],_=>by simp
 | [],_ :: _,h=>h.elim
 | _ :: _,[],h=>h.elim
 | x :: xs,c :: cs,h=>by
  simp only[List.flatten_cons,List.length_append,List.length_cons,ZJ.length_flatten (xs:=xs) h.2,h.1.1,Nat.add_mul];omega
theorem ZJ.append {xs ys:List D} {cs ds:List (List Value)} (h:ZJ w S sz xs cs) (k:ZJ w S sz ys ds):ZJ w S sz (xs++ys) (cs++ds):=Zm.append h k
theorem ZJ.mono {w' : World} {S' : Nat→Prop} (hk:ZF S S' w w') {xs:List D} {cs:List (List Value)} (h:ZJ w S sz xs cs):ZJ w' S' sz xs cs:=
 Zm.mono (fun _ _ h=>⟨h.1,h.2.mono hk⟩) h
mutual
theorem Zb5 {w' : World} {S' : Nat→Prop}:∀ {d:D} {vs:List Value},d.plain=true→ZD w S d vs→ZD w' S' d vs
 | .int _ _,_,_,h=>by simpa [ZD] using h
 | .bool _,_,_,h=>by simpa [ZD] using h
 | .str _,_,_,h=>by simpa [ZD] using h
 | .sl _,_,hp,_=>by simp[D.plain] at hp
 | .agg _,_,hp,_=>by simp[D.plain] at hp
end
theorem Zc4 {w' : World} {S' : Nat→Prop}:∀ {ds:List D} {vs:List Value},UE D.plain ds=true→QA w S ds vs→QA w' S' ds vs
 | [],_,_,h=>by simpa [QA] using h
 | d :: ds,vs,hp,h=>by
  simp only[UE,Bool.and_eq_true] at hp
  simp only[QA] at h ⊢
  obtain⟨v,r,h1,h2,h3,h4⟩:=h
  exact⟨v,r,h1,h2,Zb5 hp.1 h3,Zc4 hp.2 h4⟩
theorem Zhk {w' : World} {S' : Nat→Prop} {d:D} {vs:List Value} (hf:d.flat=true) (h:ZD w S d vs):ZD w' S' d vs:=by
 cases d with
 | agg cs=>simp only[ZD] at h ⊢;exact Zc4 hf h
 | sl xs=>simp[D.flat,D.cells,UE,D.plain] at hf
 | _=>exact Zb5 rfl h
theorem ZiR {w' : World} {S' : Nat→Prop} {d:D} {v:Value} (hf:d.flat=true) (h:QD w S d v):QD w' S' d v:=by
 cases d with
 | agg cs=>obtain⟨vs,h1,h2⟩:=h;exact⟨vs,h1,Zc4 hf h2⟩
 | sl xs=>simp[D.flat,D.cells,UE,D.plain] at hf
 | _=>simp only[QD] at h ⊢;exact Zb5 rfl h
end
section
variable {P:Program} {nt:Nat} {U:Nat→Prop} {F A I:Nat→Prop} {Γ:Gh} {sl:Sl} {hp:Hp} {a:Act} {w:World}
theorem Sim.sub (h:Sim nt F A I Γ U sl hp a w) {hp' : Hp} (hs:∀ id o,lkp hp' id=some o→lkp hp id=some o):Sim nt F A I Γ U sl hp' a w:=
 { h with objs:=fun id o hl=>h.objs id o (hs id o hl),inj:=fun i j o o' b hi hj=>h.inj i j o o' b (hs _ _ hi) (hs _ _ hj) }
theorem ZjT (h:Sim nt F A I Γ U sl hp a w) {dst:Option Nat} {base:Nat} (hb:QO U base) (hd:QG nt dst=true) {w' : World}
  (hext:∀ k,k<w.heap.size→w'.heap[k]?=w.heap[k]?) (hsz:w.heap.size≤w'.heap.size) (hos:w'.os=w.os) (htape:w'.tape=w.tape) (hout:w'.output=w.output)
  {n c s:Nat} {e:TypeId} {cur:Array Value} {xs:List D} {ex:Bool} (hheap:w'.heap[w.heap.size]?=some (.cells cur e (0,0))) (hn:n=xs.length) (hnc:n≤c) (hcm:c≤maxLen) (hcs:cur.size=c*s) (h0:0<s)
  (hrep:VE w' (if ex then fun b=>I b∧A b else I) w.heap.size s xs 0) :
  Vc nt F A I Γ w (V0 U base) (Zl sl dst (.own base)) (Zc hp [(base,.row s xs ex false)]) (a.put dst (.slice (some ⟨w.heap.size,0,none⟩) n c)) w':=by
 refine h.add (Γ':=upd Γ base (.row (some ⟨w.heap.size,0,none⟩) n c s)) (XZ _ (h.names base hb.self)) hext hsz hos htape hout ?_ ?_ ?_ ?_ ?_ ?_ hd
 ·intro k o' hk
  simp at hk
  obtain⟨rfl,rfl⟩:=hk
  refine⟨_,n,c,ZA _ _ _,hn,?_⟩
  by_cases hc:c=0
  ·exact .inl ⟨by omega,hc⟩
  ·exact .inr ⟨w.heap.size,cur,e,rfl,by omega,hheap,hnc,hcm,hcs,h0,by simp;exact fun hi=>absurd (h.bound _ hi) (by omega),h.fresh _ (Nat.le_refl _),hrep⟩
 ·intro i j o1 o2 b hi hj _ _
  simp at hi hj
  omega
 ·intro k o' b hk hbb
  simp at hk
  obtain⟨rfl,rfl⟩:=hk
  have hbb:=hbb.row
  rw[ZA] at hbb
  obtain⟨ad,h1,h2,h3⟩:=ZiQ hbb
  cases h1;rw[← h2];exact Nat.le_refl _
 ·intro k hk;exact ZY _ _ (fun e=>hb.self (e ▸ hk))
 ·intro id hid;rw[ZY _ _ (fun e=>hid (.inr (by omega)))];exact h.names id (fun hu=>hid (.inl hu))
 ·exact⟨_,n,c,s,ZA _ _ _,rfl⟩
theorem ZiS {S:Nat→Prop} {v:Value} {d:D} (h:Zki v=some d):d.one=true∧ZD w S d [v]:=by
 unfold Zki at h
 split at h
 ·cases h;exact⟨rfl,by simp[ZD]⟩
 ·cases h;exact⟨rfl,by simp[ZD]⟩
 ·cases h;exact⟨rfl,_,rfl,rfl⟩
 ·cases h;exact⟨rfl,none,0,rfl,Nat.le_refl _,.inl rfl⟩
 ·cases h
theorem Zhl {S:Nat→Prop}:∀ {vs:List Value} {ds:List D},Qh Zki vs=some ds→QA w S ds vs
 | [],ds,h=>by simp only[Qh] at h;cases h;simp[QA]
 | v :: vs,ds,h=>by
  simp only[Qh] at h
  obtain⟨d,h1,h⟩:=Za h
  obtain⟨ds',h2,h⟩:=Za h
  cases h
  obtain⟨h3,h4⟩:=ZiS (w:=w) (S:=S) h1
  exact⟨v,vs,rfl,h3,h4,Zhl h2⟩
theorem ZfQ {S:Nat→Prop} {z:Value} {d:D} (h:evD z=some d):ZD w S d z.cells.toList:=by
 cases z with
 | agg cs=>
  simp only[evD] at h
  obtain⟨ds,h1,h⟩:=Za h
  cases h
  exact Zhl h1
 | _=>simp only[evD] at h;exact(ZiS h).2
theorem Zag (z:Array Value):∀ n,(madeCells z (n*z.size)).toList=(List.replicate n z.toList).flatten:=by
 intro n
 refine List.ext_getElem? fun i=>?_
 have hz:(z.size=0→n*z.size=0):=fun h=>by simp[h]
 by_cases hi:i<n*z.size
 ·have hpos:0<z.size:=by
   rcases Nat.eq_zero_or_pos z.size with h | h
   ·rw[h] at hi;simp at hi
   ·exact h
  have h1:(madeCells z (n*z.size)).toList[i]?=some z[i % z.size]!:=by
   simp[madeCells,hi]
  rw[h1]
  clear h1
  induction n generalizing i with
  | zero=>simp at hi
  | succ n ih=>
   rw[List.replicate_succ,List.flatten_cons,List.getElem?_append]
   split
   ·rename_i h2
    simp at h2
    rw[Nat.mod_eq_of_lt h2]
    simp[h2]
   ·rename_i h2
    simp at h2
    have h3:i-z.size<n*z.size:=by rw[Nat.add_mul] at hi;omega
    have:=ih (i-z.size) (fun h=>by simp[h]) h3
    have hl:z.toList.length=z.size:=by simp
    rw[hl,← this,Nat.mod_eq_sub_mod h2]
 ·rw[List.getElem?_eq_none,List.getElem?_eq_none]
  ·rw[List.length_flatten];simp;omega
  ·simp[madeCells];omega
theorem Wu {S:Nat→Prop} {sz:Nat} {d:D} {c:List Value} (hl:c.length=sz) (h:ZD w S d c):∀ n,ZJ w S sz (List.replicate n d) (List.replicate n c)
 | 0=>trivial
 | n+1=>⟨⟨hl,h⟩,Wu hl h n⟩
theorem Qw {b:Nat} {cur:Array Value} {e:TypeId} {fr:Nat×Nat} (h:w.heap[b]?=some (.cells cur e fr)) {xs ys:List Value} (hl:cur.toList=xs++ys):Qf w b 0 xs:=fun j u hu=>by
 refine Zbq h j u ?_
 rw[hl,List.getElem?_append_left (List.getElem?_eq_some_iff.1 hu).1]
 exact hu
theorem ZqM (h:Sim nt F A I Γ U sl hp a w) {o:Oper} {t e:TypeId} {l c:Operand} {l' c' : Opd} {z:Value} {d:D} (ho:o.op=.makeSlice t l c) (he:Xr P t=some e) (hl:ZL l=some l') (hc:ZL c=some c')
  (hz:W5 P e=some z) (hzd:evD z=some d) (hok:Vp P e=true) {base:Nat} (hb:QO U base) (hd:QG nt o.dst=true) {ce:Zb} {n m:Int} (hn:idx (evO sl l')=some n) (hm:idx (evO sl c')=some m)
  (hv:ZgT base (P.cellsOf e) (P.bytesOf e) d n m=some ce):Zaf P nt F A I Γ U sl hp a w o base ce:=by
 obtain⟨i,z',hi,hz',hzs,hpos,hcells,hbytes⟩:=X1 hok
 obtain⟨i',hi',hz''⟩:=ZcL hz
 rw[hi] at hi';cases hi'
 rw[hz'] at hz'';cases hz''
 obtain⟨k1,e1⟩:=Vf hn (h.slOK.ev hl)
 obtain⟨k2,e2⟩:=Vf hm (h.slOK.ev hc)
 unfold ZgT at hv
 split at hv
 ·rename_i hcond
  obtain⟨c1,c2,c3,c4,c5⟩:=hcond
  cases hv
  rw[hcells] at c5 ⊢
  rw[hbytes] at c3
  have hr:=run_make (P:=P) w t e i z (Qy he) hi hz' k1 k2 n m c1 c2 (by have h2:=c3;rw[Int.mul_comm] at h2;simp only[ZR] at h2;omega) (by simp only[ZR] at c4;omega)
  refine⟨.slice (some ⟨w.heap.size,0,none⟩) n.toNat m.toNat,w.alloc (.cells (madeCells z.cells (m.toNat*i.size)) e),.inl (by simp[execOp,ho,e1,e2,hr]),?_⟩
  rw[QS]
  have hw' : (w.alloc (.cells (madeCells z.cells (m.toNat*i.size)) e)).heap[w.heap.size]?=some (.cells (madeCells z.cells (m.toNat*i.size)) e (0,0)):=heap_alloc_new w _
  refine ZjT h hb hd (XK w _) (by simp) rfl rfl rfl hw' (by simp) (by omega) (by simp only[ZR] at c4;simp only[maxLen];omega) (size_madeCells _ _) hpos ?_
  have hch:ZJ (w.alloc (.cells (madeCells z.cells (m.toNat*i.size)) e)) (fun b=>I b∧A b) i.size (List.replicate n.toNat d) (List.replicate n.toNat z.cells.toList):=
   Wu (by simp[hzs]) (ZfQ hzd) n.toNat
  refine Qt hch ?_
  refine Qw hw' (ys:=(List.replicate (m.toNat-n.toNat) z.cells.toList).flatten) ?_
  rw[← hzs,Zag,← List.flatten_append,List.replicate_append_replicate]
  congr 2
  omega
 ·cases hv
def ZeK:List Value→Nat→List Value→List Value
 | vs,_,[]=>vs
 | vs,off,u :: r=>ZeK (vs.set off u) (off+1) r
theorem ZiT (off:Nat):∀ (l:List Value) (k:Nat) (vs:Array Value),
  (List.foldl (fun cs (x:Value×Nat)=>cs.setIfInBounds (off+x.2) x.1) vs (l.zipIdx k)).toList=ZeK vs.toList (off+k) l
 | [],k,vs=>by simp[ZeK]
 | u :: l,k,vs=>by
  simp only[List.zipIdx_cons,List.foldl_cons,ZeK]
  rw[ZiT off l (k+1)]
  simp[Nat.add_assoc]
theorem Znr {R:AV→Value→Prop}:∀ {xs:List AV} {us:List Value} {cs:List AV} {vs:List Value} (off:Nat),Zm R xs us→Zm R cs vs→Zm R (Zog cs off xs) (ZeK vs off us)
 | [],[],_,_,_,_,h=>h
 | [],_ :: _,_,_,_,h,_=>h.elim
 | _ :: _,[],_,_,_,h,_=>h.elim
 | x :: xs,u :: us,cs,vs,off,h,hr=>by
  simp only[Zog,ZeK]
  exact Znr (off+1) h.2 (hr.set off h.1)
theorem ZiU (off:Nat) (u vs:Array Value):(u.zipIdx.foldl (fun cs (x:Value×Nat)=>cs.setIfInBounds (off+x.2) x.1) vs).toList=ZeK vs.toList off u.toList:=by
 have:=ZiT off u.toList 0 vs
 rw[← Array.foldl_toList,Array.toList_zipIdx]
 simpa using this
theorem Zhm {place:Nat→Option (Nat×Nat)} {pl:Nat→Option (Nat×Nat)} (hpl:∀ i p,pl i=some p→place i=some p) (hs:Uc Γ w I sl a) :
  ∀ {ps:List (Nat×Operand)} {qs:List (Nat×Nat×Opd)} {cells r:List AV} {vs:Array Value},Qh (Zk3 pl) ps=some qs→Zm (Q0 Γ w I) cells vs.toList→Zfh cells (evP sl qs)=some r →
   ∃ vs',Instr.fill place vs (ps.map fun x=>(x.1,a.eval x.2))=some vs'∧Zm (Q0 Γ w I) r vs'.toList
 | [],qs,cells,r,vs,hq,hr,hf=>by
  simp only[Qh] at hq;cases hq
  simp only[evP,Zfh] at hf;cases hf
  exact⟨vs,rfl,hr⟩
 | p :: ps,qs,cells,r,vs,hq,hr,hf=>by
  simp only[Qh] at hq
  obtain⟨q,h1,hq⟩:=Za hq
  obtain⟨qs',h2,hq⟩:=Za hq
  cases hq
  unfold Zk3 at h1
  obtain⟨pp,h3,h1⟩:=Za h1
  obtain⟨x,h4,h1⟩:=Za h1
  cases h1
  simp only[evP,Zfh] at hf
  split at hf
  ·rename_i hc
   obtain⟨hsol,hlen,hle⟩:=hc
   have hrc:=Rep.cells hsol (hs.ev h4)
   have hsz:(a.eval p.2).cells.size=pp.2:=by rw[← hlen,hrc.length];simp
   have hcl:cells.length=vs.size:=by rw[hr.length];simp
   obtain⟨vs',h5,h6⟩:=Zhm hpl hs (vs:=(a.eval p.2).cells.zipIdx.foldl (fun cs (x:Value×Nat)=>cs.setIfInBounds (pp.1+x.2) x.1) vs) h2 (by rw[ZiU];exact Znr _ hrc hr) hf
   refine⟨vs',?_,h6⟩
   simp only[List.map_cons,Instr.fill,hpl _ _ h3]
   have c1:¬((a.eval p.2).cells.size≠pp.2):=by simp[hsz]
   have c2:¬(pp.1+(a.eval p.2).cells.size>vs.size):=by omega
   simp only[c1,c2,decide_false,Bool.or_self,Bool.false_eq_true,if_false]
   exact h5
  ·cases hf
end
end Go.Abs
