/- The abstract semantics and the model: new rows,aggregates built. Own text. -/
import Derived.Test.YtkdjbefmiiibpaaGreatDoorAbsStep2
set_option linter.unusedVariables false
set_option linter.unusedSimpArgs false
namespace Go.Abs
open Go
def Z6 (w:World) (S:Nat→Prop) (sz:Nat) (xs:List D) (cs:List (List Value)):Prop:=Zu (fun d c=>c.length=sz∧ZU w S d c) xs cs
section
variable {w:World} {S:Nat→Prop} {sz:Nat}
theorem Q8 {b:Nat}:∀ {xs:List D} {cs:List (List Value)} {o:Nat},Z6 w S sz xs cs→QP w b o cs.flatten→Js w S b sz xs o
 | [],[],_,_,_=>by simp[Js]
 | [],_ :: _,_,h,_=>h.elim
 | _ :: _,[],_,h,_=>h.elim
 | x :: xs,c :: cs,o,h,hat=>by
  simp only[List.flatten_cons] at hat
  simp only[Js]
  refine⟨⟨c,h.1.1,?_,h.1.2⟩,Q8 h.2 ?_⟩
  ·have:=hat.take c.length;simpa using this
  ·have:=hat.drop c.length;simpa [h.1.1] using this
theorem Q9 {b:Nat}:∀ {xs:List D} {o:Nat},Js w S b sz xs o→∃ cs,Z6 w S sz xs cs∧QP w b o cs.flatten
 | [],o,_=>⟨[],trivial,fun j u hu=>by simp at hu⟩
 | x :: xs,o,h=>by
  simp only[Js] at h
  obtain⟨⟨c,h1,h2,h3⟩,h4⟩:=h
  obtain⟨cs,h5,h6⟩:=Q9 h4
  refine⟨c :: cs,⟨⟨h1,h3⟩,h5⟩,fun j u hu=>?_⟩
  simp only[List.flatten_cons,List.getElem?_append] at hu
  split at hu
  ·exact h2 j u hu
  ·have:=h6 _ u hu
   have he:o+sz+(j-c.length)=o+j:=by omega
   rw[← he];exact this
theorem Z6.length_flatten:∀ {xs:List D} {cs:List (List Value)},Z6 w S sz xs cs→cs.flatten.length=xs.length*sz
 | [],[],_=>by simp
 | [],_ :: _,h=>h.elim
 | _ :: _,[],h=>h.elim
 | x :: xs,c :: cs,h=>by
  simp only[List.flatten_cons,List.length_append,List.length_cons,Z6.length_flatten (xs:=xs) h.2,h.1.1,Nat.add_mul];omega
theorem Z6.append {xs ys:List D} {cs ds:List (List Value)} (h:Z6 w S sz xs cs) (k:Z6 w S sz ys ds):Z6 w S sz (xs++ys) (cs++ds):=Zu.append h k
theorem Z6.mono {w' : World} {S' : Nat→Prop} (hk:ZX S S' w w') {xs:List D} {cs:List (List Value)} (h:Z6 w S sz xs cs):Z6 w' S' sz xs cs:=
 Zu.mono (fun _ _ h=>⟨h.1,h.2.mono hk⟩) h
mutual
theorem Zf8 {w' : World} {S' : Nat→Prop}:∀ {d:D} {vs:List Value},d.plain=true→ZU w S d vs→ZU w' S' d vs
 | .int _ _,_,_,h=>by simpa [ZU] using h
 | .bool _,_,_,h=>by simpa [ZU] using h
 | .str _,_,_,h=>by simpa [ZU] using h
 | .sl _,_,hp,_=>by simp[D.plain] at hp
 | .agg _,_,hp,_=>by simp[D.plain] at hp
end
theorem Zhj {w' : World} {S' : Nat→Prop}:∀ {ds:List D} {vs:List Value},Zb1 D.plain ds=true→XP w S ds vs→XP w' S' ds vs
 | [],_,_,h=>by simpa [XP] using h
 | d :: ds,vs,hp,h=>by
  simp only[Zb1,Bool.and_eq_true] at hp
  simp only[XP] at h ⊢
  obtain⟨v,r,h1,h2,h3,h4⟩:=h
  exact⟨v,r,h1,h2,Zf8 hp.1 h3,Zhj hp.2 h4⟩
theorem ZmY {w' : World} {S' : Nat→Prop} {d:D} {vs:List Value} (hf:d.flat=true) (h:ZU w S d vs):ZU w' S' d vs:=by
 cases d with
 | agg cs=>simp only[ZU] at h ⊢;exact Zhj hf h
 | sl xs=>simp[D.flat,D.cells,Zb1,D.plain] at hf
 | _=>exact Zf8 rfl h
theorem Zph {w' : World} {S' : Nat→Prop} {d:D} {v:Value} (hf:d.flat=true) (h:XV w S d v):XV w' S' d v:=by
 cases d with
 | agg cs=>obtain⟨vs,h1,h2⟩:=h;exact⟨vs,h1,Zhj hf h2⟩
 | sl xs=>simp[D.flat,D.cells,Zb1,D.plain] at hf
 | _=>simp only[XV] at h ⊢;exact Zf8 rfl h
end
section
variable {P:Program} {nt:Nat} {U:Nat→Prop} {F A I:Nat→Prop} {Γ:Gh} {sl:Sl} {hp:Hp} {a:Act} {w:World}
theorem Sim.sub (h:Sim nt F A I Γ U sl hp a w) {hp' : Hp} (hs:∀ id o,lkp hp' id=some o→lkp hp id=some o):Sim nt F A I Γ U sl hp' a w:=
 { h with objs:=fun id o hl=>h.objs id o (hs id o hl),inj:=fun i j o o' b hi hj=>h.inj i j o o' b (hs _ _ hi) (hs _ _ hj) }
theorem ZqO (h:Sim nt F A I Γ U sl hp a w) {dst:Option Nat} {base:Nat} (hb:XH U base) (hd:Xj nt dst=true) {w' : World}
  (hext:∀ k,k<w.heap.size→w'.heap[k]?=w.heap[k]?) (hsz:w.heap.size≤w'.heap.size) (hos:w'.os=w.os) (htape:w'.tape=w.tape) (hout:w'.output=w.output)
  {n c s:Nat} {e:TypeId} {cur:Array Value} {xs:List D} {ex:Bool} (hheap:w'.heap[w.heap.size]?=some (.cells cur e (0,0))) (hn:n=xs.length) (hnc:n≤c) (hcm:c≤maxLen) (hcs:cur.size=c*s) (h0:0<s)
  (hrep:Js w' (if ex then fun b=>I b∧A b else I) w.heap.size s xs 0) :
  US nt F A I Γ w (J1 U base) (Zs sl dst (.own base)) (Zf hp [(base,.row s xs ex false)]) (a.put dst (.slice (some ⟨w.heap.size,0,none⟩) n c)) w':=by
 refine h.add (Γ':=upd Γ base (.row (some ⟨w.heap.size,0,none⟩) n c s)) (Vx _ (h.names base hb.self)) hext hsz hos htape hout ?_ ?_ ?_ ?_ ?_ ?_ hd
 ·intro k o' hk
  simp at hk
  obtain⟨rfl,rfl⟩:=hk
  refine⟨_,n,c,ZM _ _ _,hn,?_⟩
  by_cases hc:c=0
  ·exact .inl ⟨by omega,hc⟩
  ·exact .inr ⟨w.heap.size,cur,e,rfl,by omega,hheap,hnc,hcm,hcs,h0,by simp;exact fun hi=>absurd (h.bound _ hi) (by omega),h.fresh _ (Nat.le_refl _),hrep⟩
 ·intro i j o1 o2 b hi hj _ _
  simp at hi hj
  omega
 ·intro k o' b hk hbb
  simp at hk
  obtain⟨rfl,rfl⟩:=hk
  have hbb:=hbb.row
  rw[ZM] at hbb
  obtain⟨ad,h1,h2,h3⟩:=Zpg hbb
  cases h1;rw[← h2];exact Nat.le_refl _
 ·intro k hk;exact Qr _ _ (fun e=>hb.self (e ▸ hk))
 ·intro id hid;rw[Qr _ _ (fun e=>hid (.inr (by omega)))];exact h.names id (fun hu=>hid (.inl hu))
 ·exact⟨_,n,c,s,ZM _ _ _,rfl⟩
theorem Zpi {S:Nat→Prop} {v:Value} {d:D} (h:Zrz v=some d):d.one=true∧ZU w S d [v]:=by
 unfold Zrz at h
 split at h
 ·cases h;exact⟨rfl,by simp[ZU]⟩
 ·cases h;exact⟨rfl,by simp[ZU]⟩
 ·cases h;exact⟨rfl,_,rfl,rfl⟩
 ·cases h;exact⟨rfl,none,0,rfl,Nat.le_refl _,.inl rfl⟩
 ·cases h
theorem ZmZ {S:Nat→Prop}:∀ {vs:List Value} {ds:List D},QU Zrz vs=some ds→XP w S ds vs
 | [],ds,h=>by simp only[QU] at h;cases h;simp[XP]
 | v :: vs,ds,h=>by
  simp only[QU] at h
  obtain⟨d,h1,h⟩:=Za h
  obtain⟨ds',h2,h⟩:=Za h
  cases h
  obtain⟨h3,h4⟩:=Zpi (w:=w) (S:=S) h1
  exact⟨v,vs,rfl,h3,h4,ZmZ h2⟩
theorem ZkT {S:Nat→Prop} {z:Value} {d:D} (h:evD z=some d):ZU w S d z.cells.toList:=by
 cases z with
 | agg cs=>
  simp only[evD] at h
  obtain⟨ds,h1,h⟩:=Za h
  cases h
  exact ZmZ h1
 | _=>simp only[evD] at h;exact(Zpi h).2
theorem ZdK (z:Array Value):∀ n,(madeCells z (n*z.size)).toList=(List.replicate n z.toList).flatten:=by
 intro n
 refine List.ext_getElem? fun i=>?_
 have hz:(z.size=0→n*z.size=0):=fun h=>by simp[h]
 by_cases hi:i<n*z.size
 ·have hpos:0<z.size:=by
   rcases Nat.eq_zero_or_pos z.size with h | h
   ·rw[h] at hi;simp at hi
   ·exact h
  have h1:(madeCells z (n*z.size)).toList[i]?=some z[i % z.size]!:=by
   simp[madeCells,hi]
  rw[h1]
  clear h1
  induction n generalizing i with
  | zero=>simp at hi
  | succ n ih=>
   rw[List.replicate_succ,List.flatten_cons,List.getElem?_append]
   split
   ·rename_i h2
    simp at h2
    rw[Nat.mod_eq_of_lt h2]
    simp[h2]
   ·rename_i h2
    simp at h2
    have h3:i-z.size<n*z.size:=by rw[Nat.add_mul] at hi;omega
    have:=ih (i-z.size) (fun h=>by simp[h]) h3
    have hl:z.toList.length=z.size:=by simp
    rw[hl,← this,Nat.mod_eq_sub_mod h2]
 ·rw[List.getElem?_eq_none,List.getElem?_eq_none]
  ·rw[List.length_flatten];simp;omega
  ·simp[madeCells];omega
theorem Zaw {S:Nat→Prop} {sz:Nat} {d:D} {c:List Value} (hl:c.length=sz) (h:ZU w S d c):∀ n,Z6 w S sz (List.replicate n d) (List.replicate n c)
 | 0=>trivial
 | n+1=>⟨⟨hl,h⟩,Zaw hl h n⟩
theorem Xc {b:Nat} {cur:Array Value} {e:TypeId} {fr:Nat×Nat} (h:w.heap[b]?=some (.cells cur e fr)) {xs ys:List Value} (hl:cur.toList=xs++ys):QP w b 0 xs:=fun j u hu=>by
 refine Zfi h j u ?_
 rw[hl,List.getElem?_append_left (List.getElem?_eq_some_iff.1 hu).1]
 exact hu
theorem ZAG (h:Sim nt F A I Γ U sl hp a w) {o:Oper} {t e:TypeId} {l c:Operand} {l' c' : Opd} {z:Value} {d:D} (ho:o.op=.makeSlice t l c) (he:YL P t=some e) (hl:Z8 l=some l') (hc:Z8 c=some c')
  (hz:Zbl P e=some z) (hzd:evD z=some d) (hok:Jb P e=true) {base:Nat} (hb:XH U base) (hd:Xj nt o.dst=true) {ce:Zb} {n m:Int} (hn:idx (evO sl l')=some n) (hm:idx (evO sl c')=some m)
  (hv:Zmu base (P.cellsOf e) (P.bytesOf e) d n m=some ce):ZdJ P nt F A I Γ U sl hp a w o base ce:=by
 obtain⟨i,z',hi,hz',hzs,hpos,hcells,hbytes⟩:=VD hok
 obtain⟨i',hi',hz''⟩:=Zg1 hz
 rw[hi] at hi';cases hi'
 rw[hz'] at hz'';cases hz''
 obtain⟨k1,e1⟩:=UZ hn (h.slOK.ev hl)
 obtain⟨k2,e2⟩:=UZ hm (h.slOK.ev hc)
 unfold Zmu at hv
 split at hv
 ·rename_i hcond
  obtain⟨c1,c2,c3,c4,c5⟩:=hcond
  cases hv
  rw[hcells] at c5 ⊢
  rw[hbytes] at c3
  have hr:=run_make (P:=P) w t e i z (Xd he) hi hz' k1 k2 n m c1 c2 (by have h2:=c3;rw[Int.mul_comm] at h2;simp only[QA] at h2;omega) (by simp only[QA] at c4;omega)
  refine⟨.slice (some ⟨w.heap.size,0,none⟩) n.toNat m.toNat,w.alloc (.cells (madeCells z.cells (m.toNat*i.size)) e),.inl (by simp[execOp,ho,e1,e2,hr]),?_⟩
  rw[XR]
  have hw' : (w.alloc (.cells (madeCells z.cells (m.toNat*i.size)) e)).heap[w.heap.size]?=some (.cells (madeCells z.cells (m.toNat*i.size)) e (0,0)):=heap_alloc_new w _
  refine ZqO h hb hd (Vd w _) (by simp) rfl rfl rfl hw' (by simp) (by omega) (by simp only[QA] at c4;simp only[maxLen];omega) (size_madeCells _ _) hpos ?_
  have hch:Z6 (w.alloc (.cells (madeCells z.cells (m.toNat*i.size)) e)) (fun b=>I b∧A b) i.size (List.replicate n.toNat d) (List.replicate n.toNat z.cells.toList):=
   Zaw (by simp[hzs]) (ZkT hzd) n.toNat
  refine Q8 hch ?_
  refine Xc hw' (ys:=(List.replicate (m.toNat-n.toNat) z.cells.toList).flatten) ?_
  rw[← hzs,ZdK,← List.flatten_append,List.replicate_append_replicate]
  congr 2
  omega
 ·cases hv
def Zjs:List Value→Nat→List Value→List Value
 | vs,_,[]=>vs
 | vs,off,u :: r=>Zjs (vs.set off u) (off+1) r
theorem Zpj (off:Nat):∀ (l:List Value) (k:Nat) (vs:Array Value),
  (List.foldl (fun cs (x:Value×Nat)=>cs.setIfInBounds (off+x.2) x.1) vs (l.zipIdx k)).toList=Zjs vs.toList (off+k) l
 | [],k,vs=>by simp[Zjs]
 | u :: l,k,vs=>by
  simp only[List.zipIdx_cons,List.foldl_cons,Zjs]
  rw[Zpj off l (k+1)]
  simp[Nat.add_assoc]
theorem Zu1 {R:AV→Value→Prop}:∀ {xs:List AV} {us:List Value} {cs:List AV} {vs:List Value} (off:Nat),Zu R xs us→Zu R cs vs→Zu R (Zwa cs off xs) (Zjs vs off us)
 | [],[],_,_,_,_,h=>h
 | [],_ :: _,_,_,_,h,_=>h.elim
 | _ :: _,[],_,_,_,h,_=>h.elim
 | x :: xs,u :: us,cs,vs,off,h,hr=>by
  simp only[Zwa,Zjs]
  exact Zu1 (off+1) h.2 (hr.set off h.1)
theorem Zpk (off:Nat) (u vs:Array Value):(u.zipIdx.foldl (fun cs (x:Value×Nat)=>cs.setIfInBounds (off+x.2) x.1) vs).toList=Zjs vs.toList off u.toList:=by
 have:=Zpj off u.toList 0 vs
 rw[← Array.foldl_toList,Array.toList_zipIdx]
 simpa using this
theorem Zm0 {place:Nat→Option (Nat×Nat)} {pl:Nat→Option (Nat×Nat)} (hpl:∀ i p,pl i=some p→place i=some p) (hs:Zbx Γ w I sl a) :
  ∀ {ps:List (Nat×Operand)} {qs:List (Nat×Nat×Opd)} {cells r:List AV} {vs:Array Value},QU (Zsj pl) ps=some qs→Zu (X4 Γ w I) cells vs.toList→ZjW cells (evP sl qs)=some r →
   ∃ vs',Instr.fill place vs (ps.map fun x=>(x.1,a.eval x.2))=some vs'∧Zu (X4 Γ w I) r vs'.toList
 | [],qs,cells,r,vs,hq,hr,hf=>by
  simp only[QU] at hq;cases hq
  simp only[evP,ZjW] at hf;cases hf
  exact⟨vs,rfl,hr⟩
 | p :: ps,qs,cells,r,vs,hq,hr,hf=>by
  simp only[QU] at hq
  obtain⟨q,h1,hq⟩:=Za hq
  obtain⟨qs',h2,hq⟩:=Za hq
  cases hq
  unfold Zsj at h1
  obtain⟨pp,h3,h1⟩:=Za h1
  obtain⟨x,h4,h1⟩:=Za h1
  cases h1
  simp only[evP,ZjW] at hf
  split at hf
  ·rename_i hc
   obtain⟨hsol,hlen,hle⟩:=hc
   have hrc:=Rep.cells hsol (hs.ev h4)
   have hsz:(a.eval p.2).cells.size=pp.2:=by rw[← hlen,hrc.length];simp
   have hcl:cells.length=vs.size:=by rw[hr.length];simp
   obtain⟨vs',h5,h6⟩:=Zm0 hpl hs (vs:=(a.eval p.2).cells.zipIdx.foldl (fun cs (x:Value×Nat)=>cs.setIfInBounds (pp.1+x.2) x.1) vs) h2 (by rw[Zpk];exact Zu1 _ hrc hr) hf
   refine⟨vs',?_,h6⟩
   simp only[List.map_cons,Instr.fill,hpl _ _ h3]
   have c1:¬((a.eval p.2).cells.size≠pp.2):=by simp[hsz]
   have c2:¬(pp.1+(a.eval p.2).cells.size>vs.size):=by omega
   simp only[c1,c2,decide_false,Bool.or_self,Bool.false_eq_true,if_false]
   exact h5
  ·cases hf
end
end Go.Abs
