/- Own text. -/
import Derived.Test.YtefabmohhbhlfaaAbsStep2
set_option linter.unusedVariables false
set_option linter.unusedSimpArgs false
namespace Go.Abs
open Go
def ZS (w:World) (S:Nat→Prop) (sz:Nat) (xs:List D) (cs:List (List Value)):Prop:=Zr (fun d c=>c.length=sz∧ZL w S d c) xs cs
section
variable {w:World} {S:Nat→Prop} {sz:Nat}
theorem XC {b:Nat}:∀ {xs:List D} {cs:List (List Value)} {o:Nat},ZS w S sz xs cs→Qe w b o cs.flatten→VU w S b sz xs o
 | [],[],_,_,_=>by simp[VU]
 | [],_ :: _,_,h,_=>h.elim
 | _ :: _,[],_,h,_=>h.elim
 | x :: xs,c :: cs,o,h,hat=>by
  simp only[K0] at hat;simp only[VU];refine⟨⟨c,h.1.1,?_,h.1.2⟩,XC h.2 ?_⟩
  ·have:=hat.take c.length;simpa using this
  ·have:=hat.drop c.length;simpa [h.1.1] using this
theorem Xc {b:Nat}:∀ {xs:List D} {o:Nat},VU w S b sz xs o→∃ cs,ZS w S sz xs cs∧Qe w b o cs.flatten
 | [],o,_=>⟨[],trivial,fun j u hu=>by simp at hu⟩
 | x :: xs,o,h=>by
  simp only[VU] at h;obtain⟨⟨c,h1,h2,h3⟩,h4⟩:=h;obtain⟨cs,h5,h6⟩:=Xc h4;refine⟨c :: cs,⟨⟨h1,h3⟩,h5⟩,fun j u hu=>?_⟩;simp only[K0,Kaa] at hu;split at hu
  ·exact h2 j u hu
  ·have:=h6 _ u hu;have he:o+sz+(j-c.length)=o+j:=by omega
   rw[← he];exact this
theorem ZS.length_flatten:∀ {xs:List D} {cs:List (List Value)},ZS w S sz xs cs→cs.flatten.length=xs.length*sz
 | [],[],_=>by simp
 | [],_ :: _,h=>h.elim
 | _ :: _,[],h=>h.elim
 | x :: xs,c :: cs,h=>by
  simp only[K0,Kk,Ki,ZS.length_flatten (xs:=xs) h.2,h.1.1,KI];omega
theorem ZS.append {xs ys:List D} {cs ds:List (List Value)} (h:ZS w S sz xs cs) (k:ZS w S sz ys ds):ZS w S sz (xs++ys) (cs++ds):=Zr.append h k
theorem ZS.mono {w' : World} {S' : Nat→Prop} (hk:ZF S S' w w') {xs:List D} {cs:List (List Value)} (h:ZS w S sz xs cs):ZS w' S' sz xs cs:=
 Zr.mono (fun _ _ h=>⟨h.1,h.2.mono hk⟩) h
theorem Zer {w' : World} {S' : Nat→Prop}:∀ {ds:List D} {vs:List Value},Ul D.plain ds=true→QE w S ds vs→QE w' S' ds vs
 | [],_,_,h=>by simpa [QE] using h
 | d :: ds,vs,hp,h=>by
  simp only[Ul,Kb] at hp;simp only[QE] at h ⊢;obtain⟨v,r,h1,h2,h3,h4⟩:=h;exact⟨v,r,h1,h2,Zba hp.1 h3,Zer hp.2 h4⟩
theorem ZjY {w' : World} {S' : Nat→Prop} {d:D} {vs:List Value} (hf:d.flat=true) (h:ZL w S d vs):ZL w' S' d vs:=by
 cases d with
 | agg cs=>simp only[ZL] at h ⊢;exact Zer hf h
 | sl xs=>simp[D.flat,D.cells,Ul,D.plain] at hf
 | _=>exact Zba rfl h
theorem ZlE {w' : World} {S' : Nat→Prop} {d:D} {v:Value} (hf:d.flat=true) (h:Xj w S d v):Xj w' S' d v:=by
 cases d with
 | agg cs=>obtain⟨vs,h1,h2⟩:=h;exact⟨vs,h1,Zer hf h2⟩
 | sl xs=>simp[D.flat,D.cells,Ul,D.plain] at hf
 | _=>simp only[Xj] at h ⊢;exact Zba rfl h
end
section
variable {P:Program} {nt:Nat} {U:Nat→Prop} {F A I:Nat→Prop} {Γ:Gh} {sl:Sl} {hp:Hp} {a:Act} {w:World}
theorem Sim.sub (h:Sim nt F A I Γ U sl hp a w) {hp' : Hp} (hs:∀ id o,lkp hp' id=some o→lkp hp id=some o):Sim nt F A I Γ U sl hp' a w:=
 { h with objs:=fun id o hl=>h.objs id o (hs id o hl),inj:=fun i j o o' b hi hj=>h.inj i j o o' b (hs _ _ hi) (hs _ _ hj) }
theorem ZmR (h:Sim nt F A I Γ U sl hp a w) {dst:Option Nat} {base:Nat} (hb:QJ U base) (hd:Qv nt dst=true) {w' : World}
  (af:∀ k,k<w.heap.size→w'.heap[k]?=w.heap[k]?) (aj:w.heap.size≤w'.heap.size) (ak:w'.os=w.os) (aa:w'.tape=w.tape) (ag:w'.output=w.output)
  {n c s:Nat} {e:TypeId} {cur:Array Value} {xs:List D} {ex:Bool} (ab:w'.heap[w.heap.size]?=some (.cells cur e (0,0))) (hn:n=xs.length) (al:n≤c) (am:c≤maxLen) (an:cur.size=c*s) (h0:0<s)
  (ah:VU w' (if ex then fun b=>I b∧A b else I) w.heap.size s xs 0) :
  YB nt F A I Γ w (W3 U base) (Zk sl dst (.own base)) (Zd hp [(base,.row s xs ex false)]) (a.put dst (.slice (some ⟨w.heap.size,0,none⟩) n c)) w':=by
 refine h.add (Γ':=upd Γ base (.row (some ⟨w.heap.size,0,none⟩) n c s)) (YL _ (h.names base hb.self)) af aj ak aa ag ?_ ?_ ?_ ?_ ?_ ?_ hd
 ·intro k o' hk;simp at hk;obtain⟨rfl,rfl⟩:=hk;refine⟨_,n,c,Zz _ _ _,hn,?_⟩;by_cases hc:c=0
  ·exact .inl ⟨by omega,hc⟩
  ·exact .inr ⟨w.heap.size,0,cur,e,rfl,by omega,ab,al,am,⟨by omega,fun _=>rfl⟩,h0,by simp;exact fun hi=>absurd (h.bound _ hi) (by omega),h.fresh _ (Kh _),ah⟩
 ·intro i j o1 o2 b hi hj _ _;simp at hi hj;omega
 ·intro k o' b hk ae;simp at hk;obtain⟨rfl,rfl⟩:=hk;have ae:=ae.row;rw[Zz] at ae;obtain⟨ad,h1,h2,h3⟩:=ZlD ae;cases h1;rw[← h2];exact Kh _
 ·intro k hk;exact Qn _ _ (fun e=>hb.self (e ▸ hk))
 ·intro id ai;rw[Qn _ _ (fun e=>ai (.inr (by omega)))];exact h.names id (fun hu=>ai (.inl hu))
 ·exact⟨_,n,c,s,Zz _ _ _,rfl⟩
theorem ZlF {S:Nat→Prop} {v:Value} {d:D} (h:ZeP v=some d):d.one=true∧ZL w S d [v]:=by
 unfold ZeP at h;split at h
 ·cases h;exact⟨rfl,by simp[ZL]⟩
 ·cases h;exact⟨rfl,by simp[ZL]⟩
 ·cases h;exact⟨rfl,_,rfl,rfl⟩
 ·cases h;exact⟨rfl,none,0,rfl,Kh _,.inl rfl⟩
 ·cases h
theorem ZjZ {S:Nat→Prop}:∀ {vs:List Value} {ds:List D},Qi ZeP vs=some ds→QE w S ds vs
 | [],ds,h=>by simp only[Qi] at h;cases h;simp[QE]
 | v :: vs,ds,h=>by
  simp only[Qi] at h;obtain⟨d,h1,h⟩:=Za h;obtain⟨aa,h2,h⟩:=Za h;cases h;obtain⟨h3,h4⟩:=ZlF (w:=w) (S:=S) h1;exact⟨v,vs,rfl,h3,h4,ZjZ h2⟩
theorem ZhN {S:Nat→Prop} {z:Value} {d:D} (h:evD z=some d):ZL w S d z.cells.toList:=by
 cases z with
 | agg cs=>
  simp only[evD] at h;obtain⟨ds,h1,h⟩:=Za h;cases h;exact ZjZ h1
 | _=>simp only[evD] at h;exact(ZlF h).2
theorem Uw (z:Array Value):∀ n,(madeCells z (n*z.size)).toList=(List.replicate n z.toList).flatten:=by
 intro n;refine K7 fun i=>?_;have hz:(z.size=0→n*z.size=0):=fun h=>by simp[h]
 by_cases hi:i<n*z.size
 ·have aa:0<z.size:=by
   rcases Lr z.size with h | h
   ·rw[h] at hi;simp at hi
   ·exact h
  have h1:(madeCells z (n*z.size)).toList[i]?=some z[i % z.size]!:=by
   simp[madeCells,hi]
  rw[h1];clear h1
  induction n generalizing i with
  | zero=>simp at hi
  | succ n ih=>
   rw[LV,K0,Kaa];split
   ·rename_i h2;simp at h2;rw[Nat.mod_eq_of_lt h2];simp[h2]
   ·rename_i h2;simp at h2;have h3:i-z.size<n*z.size:=by rw[KI] at hi;omega
    have:=ih (i-z.size) (fun h=>by simp[h]) h3;have hl:z.toList.length=z.size:=by simp
    rw[hl,← this,Nat.mod_eq_sub_mod h2]
 ·rw[KR,KR]
  ·rw[List.length_flatten];simp;omega
  ·simp[madeCells];omega
theorem Ux {S:Nat→Prop} {sz:Nat} {d:D} {c:List Value} (hl:c.length=sz) (h:ZL w S d c):∀ n,ZS w S sz (List.replicate n d) (List.replicate n c)
 | 0=>trivial
 | n+1=>⟨⟨hl,h⟩,Ux hl h n⟩
theorem YC {b:Nat} {cur:Array Value} {e:TypeId} {fr:Nat×Nat} (h:w.heap[b]?=some (.cells cur e fr)) {xs ys:List Value} (hl:cur.toList=xs++ys):Qe w b 0 xs:=fun j u hu=>by
 refine Zcw h j u ?_;rw[hl,Ku (Kd.1 hu).1];exact hu
theorem Zuz (h:Sim nt F A I Γ U sl hp a w) {o:Oper} {t e:TypeId} {l c:Operand} {l' c' : Opd} {z:Value} {d:D} (ho:o.op=.makeSlice t l c) (he:Xw P t=some e) (hl:ZO l=some l') (hc:ZO c=some c')
  (hz:UT P e=some z) (ak:evD z=some d) (al:VT P e=true) {base:Nat} (hb:QJ U base) (hd:Qv nt o.dst=true) {ce:Zb} {n m:Int} (hn:idx (evO sl l')=some n) (hm:idx (evO sl c')=some m)
  (hv:Zlp base (P.cellsOf e) (P.bytesOf e) d n m=some ce):ZaP P nt F A I Γ U sl hp a w o base ce:=by
 obtain⟨i,z',hi,ag,ah,af,aa,ab⟩:=Yi al;obtain⟨i',ai,ad⟩:=ZbC hz;rw[hi] at ai;cases ai;rw[ag] at ad;cases ad;obtain⟨k1,e1⟩:=YV hn (h.slOK.ev hl);obtain⟨k2,e2⟩:=YV hm (h.slOK.ev hc);unfold Zlp at hv;split at hv
 ·rename_i ae;obtain⟨c1,c2,c3,c4,c5⟩:=ae;cases hv;rw[aa] at c5 ⊢;rw[ab] at c3;have hr:=run_make (P:=P) w t e i z (Qy he) hi ag k1 k2 n m c1 c2 (by have h2:=c3;rw[Int.mul_comm] at h2;simp only[Zy] at h2;omega) (by simp only[Zy] at c4;omega);refine⟨.slice (some ⟨w.heap.size,0,none⟩) n.toNat m.toNat,w.alloc (.cells (madeCells z.cells (m.toNat*i.size)) e),.inl (by simp[execOp,ho,e1,e2,hr]),?_⟩;rw[QO];have aj : (w.alloc (.cells (madeCells z.cells (m.toNat*i.size)) e)).heap[w.heap.size]?=some (.cells (madeCells z.cells (m.toNat*i.size)) e (0,0)):=heap_alloc_new w _;refine ZmR h hb hd (XB w _) (by simp) rfl rfl rfl aj (by simp) (by omega) (by simp only[Zy] at c4;simp only[maxLen];omega) (size_madeCells _ _) af ?_
  have am:ZS (w.alloc (.cells (madeCells z.cells (m.toNat*i.size)) e)) (fun b=>I b∧A b) i.size (List.replicate n.toNat d) (List.replicate n.toNat z.cells.toList):=
   Ux (by simp[ah]) (ZhN ak) n.toNat
  refine XC am ?_;refine YC aj (ys:=(List.replicate (m.toNat-n.toNat) z.cells.toList).flatten) ?_;rw[← ah,Uw,← Ln,List.replicate_append_replicate];congr 2
  omega
 ·cases hv
def Zgu:List Value→Nat→List Value→List Value
 | vs,_,[]=>vs
 | vs,off,u :: r=>Zgu (vs.set off u) (off+1) r
theorem ZlG (off:Nat):∀ (l:List Value) (k:Nat) (vs:Array Value),
  (List.foldl (fun cs (x:Value×Nat)=>cs.setIfInBounds (off+x.2) x.1) vs (l.zipIdx k)).toList=Zgu vs.toList (off+k) l
 | [],k,vs=>by simp[Zgu]
 | u :: l,k,vs=>by
  simp only[List.zipIdx_cons,List.foldl_cons,Zgu];rw[ZlG off l (k+1)];simp[KK]
theorem Zqz {R:AV→Value→Prop}:∀ {xs:List AV} {us:List Value} {cs:List AV} {vs:List Value} (off:Nat),Zr R xs us→Zr R cs vs→Zr R (Zrv cs off xs) (Zgu vs off us)
 | [],[],_,_,_,_,h=>h
 | [],_ :: _,_,_,_,h,_=>h.elim
 | _ :: _,[],_,_,_,h,_=>h.elim
 | x :: xs,u :: us,cs,vs,off,h,hr=>by
  simp only[Zrv,Zgu];exact Zqz (off+1) h.2 (hr.set off h.1)
theorem ZlH (off:Nat) (u vs:Array Value):(u.zipIdx.foldl (fun cs (x:Value×Nat)=>cs.setIfInBounds (off+x.2) x.1) vs).toList=Zgu vs.toList off u.toList:=by
 have:=ZlG off u.toList 0 vs;rw[← Array.foldl_toList,Array.toList_zipIdx];simpa using this
theorem Zj0 {place:Nat→Option (Nat×Nat)} {pl:Nat→Option (Nat×Nat)} (ae:∀ i p,pl i=some p→place i=some p) (hs:Jg Γ w I sl a) :
  ∀ {ps:List (Nat×Operand)} {qs:List (Nat×Nat×Opd)} {cells r:List AV} {vs:Array Value},Qi (ZnZ pl) ps=some qs→Zr (Xd Γ w I) cells vs.toList→ZgY cells (evP sl qs)=some r →
   ∃ aa,Instr.fill place vs (ps.map fun x=>(x.1,a.eval x.2))=some aa∧Zr (Xd Γ w I) r aa.toList
 | [],qs,cells,r,vs,hq,hr,hf=>by
  simp only[Qi] at hq;cases hq;simp only[evP,ZgY] at hf;cases hf;exact⟨vs,rfl,hr⟩
 | p :: ps,qs,cells,r,vs,hq,hr,hf=>by
  simp only[Qi] at hq;obtain⟨q,h1,hq⟩:=Za hq;obtain⟨ah,h2,hq⟩:=Za hq;cases hq;unfold ZnZ at h1;obtain⟨pp,h3,h1⟩:=Za h1;obtain⟨x,h4,h1⟩:=Za h1;cases h1;simp only[evP,ZgY] at hf;split at hf
  ·rename_i hc;obtain⟨ab,ad,ai⟩:=hc;have af:=Rep.cells ab (hs.ev h4);have ag:(a.eval p.2).cells.size=pp.2:=by rw[← ad,af.length];simp
   have aj:cells.length=vs.size:=by rw[hr.length];simp
   obtain⟨aa,h5,h6⟩:=Zj0 ae hs (vs:=(a.eval p.2).cells.zipIdx.foldl (fun cs (x:Value×Nat)=>cs.setIfInBounds (pp.1+x.2) x.1) vs) h2 (by rw[ZlH];exact Zqz _ af hr) hf;refine⟨aa,?_,h6⟩;simp only[Kn,Instr.fill,ae _ _ h3];have c1:¬((a.eval p.2).cells.size≠pp.2):=by simp[ag]
   have c2:¬(pp.1+(a.eval p.2).cells.size>vs.size):=by omega
   simp only[c1,c2,decide_false,Bool.or_self,Ka,Kf];exact h5
  ·cases hf
end
end Go.Abs
set_option linter.unusedVariables false
set_option linter.unusedSimpArgs false
namespace Go.Abs
open Go
section
variable {P:Program} {nt:Nat} {U:Nat→Prop} {F A I:Nat→Prop} {Γ:Gh} {sl:Sl} {hp:Hp} {a:Act} {w:World}
theorem Zg9:∀ (fs:List Field) (w:World),(∀ f∈fs,(P.info? f.type).isSome=true) →
  (fs.mapM (m:=Sem) fun f=>do pure (f.offset,← sizeOf f.type)).run P w=.ok (fs.map fun f=>(f.offset,P.cellsOf f.type)) w
 | [],w,_=>by simp
 | f :: fs,w,h=>by
  obtain⟨i,hi⟩:=K9.1 (h f (by simp));have ih:=Zg9 fs w fun g hg=>h g (by simp[hg]);simp only[List.mapM_cons,Sem.run_bind,Qz hi,Result.andThen_ok,Sem.run_pure,ih,Kn]
theorem ZrO {t:TypeId} {z:Value} (hz:UT P t=some z) (hf:Zfg P t=true) (hs:Jg Γ w I sl a) {ps:Array (Nat×Operand)} {qs:List (Nat×Nat×Opd)}
  (hq:Qi (ZnZ (ZbK P t (Zej P t))) ps.toList=some qs) {cs:List AV} (hv:ZgY (evC z).cells (evP sl qs)=some cs) :
  ∃ vs,(Instr.build t (ps.map fun x=>(x.1,a.eval x.2))).run P w=.ok (.agg vs) w∧Zr (Xd Γ w I) cs vs.toList:=by
 unfold Zfg at hf;split at hf
 ·rename_i fs hu;have ha:Zej P t=none:=by simp[Zej,hu]
  have aa:∀ i p,ZbK P t (Zej P t) i=some p→(fs.map fun f=>(f.offset,P.cellsOf f.type))[i]?=some p:=by
   intro i p hp';rw[ha] at hp';simp only[ZbK] at hp';obtain⟨q,h1,h2⟩:=Za hp';cases h2;obtain⟨ad,x,h3,h4,h5,h6,_⟩:=Zcv h1;rw[hu] at h3;cases h3;simp[h4,h5,h6]
  obtain⟨vs,h1,h2⟩:=Zj0 (place:=fun i=>(fs.map fun f=>(f.offset,P.cellsOf f.type))[i]?) aa hs hq (Zgt Γ w I z) hv;refine⟨vs,?_,h2⟩;have hm:(fs.mapM (m:=Sem) fun f=>do pure (f.offset,← sizeOf f.type)).run P w=.ok (fs.map fun f=>(f.offset,P.cellsOf f.type)) w:=by
   rw[Array.mapM_eq_mapM_toList,Sem.run_map,Zg9 fs.toList w (fun f hm=>KO.1 hf f hm)];simp;apply Array.ext';simp
  have ab : Instr.fill (fun i=>(fs.map fun f=>(f.offset,P.cellsOf f.type))[i]?) z.cells (ps.map fun x=>(x.1,a.eval x.2)).toList=some vs:=by simpa using h1
  simp only[Instr.build,Sem.run_bind,Za5 hz,Result.andThen_ok,run_underlying hu,hm,ab];rfl
 ·rename_i n e hu;have ha:Zej P t=some (n,e):=by simp[Zej,hu]
  obtain⟨i,hi⟩:=K9.1 hf;have aa:∀ j p,ZbK P t (Zej P t) j=some p→(fun j=>some (j*P.cellsOf e,P.cellsOf e)) j=some p:=by
   intro j p hp';rw[ha] at hp';simpa [ZbK] using hp'
  obtain⟨vs,h1,h2⟩:=Zj0 aa hs hq (Zgt Γ w I z) hv;refine⟨vs,?_,h2⟩;have ab : Instr.fill (fun j=>some (j*P.cellsOf e,P.cellsOf e)) z.cells (ps.map fun x=>(x.1,a.eval x.2)).toList=some vs:=by simpa using h1
  simp only[Instr.build,Sem.run_bind,Za5 hz,Result.andThen_ok,run_underlying hu,Qz hi,ab];rfl
 ·cases hf
theorem ZpE {o:Oper} {t:TypeId} {ps:Array (Nat×Operand)} {z:Value} {qs:List (Nat×Nat×Opd)} (ho:o.op=.build t ps) (hz:UT P t=some z) (hf:Zfg P t=true) (hs:Jg Γ w I sl a)
  (hq:Qi (ZnZ (ZbK P t (Zej P t))) ps.toList=some qs) {ce:Zb} (hv:Zjq (evC z).cells (evP sl qs)=some ce):Xx P Γ I o a w ce:=by
 unfold Zjq at hv;obtain⟨cs,h1,h2⟩:=Za hv;obtain⟨vs,h3,h4⟩:=ZrO hz hf hs hq h1;exact⟨.agg vs,_,.inl (by simp only[execOp,ho];simp[h3]),Z9 h2,Zdm h4⟩
theorem ZrP {x:AV} {v:Value} (ha:x.atom=true) (h:Rep Γ w I x v):XX Γ w I x v:=by
 cases x<;>first | exact h | (simp[AV.atom] at ha;done) | skip
 rename_i d;exact⟨ha,(Xj.one ha).1 (QR.1 h)⟩
theorem Zj1:∀ {xs:List AV} {vs:List Value},Zdg xs=true→Zr (Rep Γ w I) xs vs→Zr (XX Γ w I) xs vs
 | [],[],_,_=>trivial
 | [],_ :: _,_,h=>h.elim
 | _ :: _,[],_,h=>h.elim
 | x :: xs,v :: vs,ha,h=>by
  simp only[Zdg,Kb] at ha;exact⟨ZrP ha.1 h.1,Zj1 ha.2 h.2⟩
theorem ZuA {o:Oper} {f:FuncId} {fs cs:Array Operand} {ys:List Opd} (ho:o.op=.makeFunc (.func f) fs cs) (he:fs.toList.isEmpty=true) (hs:Jg Γ w I sl a) (hc:Qi ZO cs.toList=some ys) {ce:Zb}
  (hv:Y3 (cloV f (evL sl ys))=some ce):Xx P Γ I o a w ce:=by
 obtain⟨r,h1,h2⟩:=opt1_some hv;unfold cloV at h1;split at h1
 ·rename_i ha;cases h1;have aa:fs = #[]:=by simpa using he
  refine⟨.func (.func f) #[] (cs.map a.eval),_,.inl (by simp[execOp,ho,Instr.makeFunc,aa]),h2,⟨_,rfl,?_⟩⟩;have:=Zj1 ha (hs.evL hc);simpa using this
 ·cases h1
def U9 (Γ:Gh) (w:World) (I A:Nat→Prop) (hp:Hp) (ids:List Nat) (cl:Bool) (Q:(Nat→Prop)→Prop):Prop:=
 ∀ I' : Nat→Prop,(∀ b,I b→I' b)→(∀ id∈ids,∀ sz xs ex b,lkp hp id=some (.row sz xs ex false)→Zq (Γ id)=some b→I' b)→Q I'∧(cl=true→Q fun b=>I' b∧A b)
theorem Uy {I' : Nat→Prop} (h:∀ b,I b→I' b):ZF I I' w w:=⟨h,fun _ _=>rfl⟩
theorem ZrQ (h:Uo Γ w I F A hp) (aa:∀ b,F b→A b) {id:Nat} {q:List D×Bool} (he:ZeR (lkp hp id)=some q) :
  ∃ a n c sz,Γ id=some (.row a n c sz)∧U9 Γ w I A hp [id] q.2 fun S=>ZL w S (.sl q.1) [.slice a n c]:=by
 unfold ZeR at he;split at he
 ·rename_i sz xs ex fz hl;cases he;obtain⟨ad,n,c,h1,h2,h3⟩:=h id _ hl;refine⟨ad,n,c,sz,h1,fun I' hI hf=>?_⟩;rcases h3 with h3 | ⟨g,q0,cur,e,rfl,hc,hw,h4,h5,h6,h7,h8,ab,h9⟩
  ·have hx:xs=[]:=Ko (by omega);subst hx;have:∀ S,ZL w S (.sl []) [.slice ad n c]:=fun S=>⟨ad,c,by rw[h2],by simp,.inl rfl⟩
   exact⟨this _,fun _=>this _⟩
  ·have hg:I' g:=by
    cases fz
    ·exact hf id (by simp) sz xs ex g hl (by rw[h1];simp[Zq,Ky hc])
    ·exact hI g (by simpa using h8)
   refine⟨⟨_,c,by rw[h2],(show xs.length≤c by omega),.inr ⟨g,q0,sz,rfl,hg,h7,?_⟩⟩,fun ae=>?_⟩
   ·cases ex
    ·exact h9.mono' (Uy hI) rfl
    ·exact h9.mono' ⟨fun b hb=>hI b hb.1,fun _ _=>rfl⟩ rfl
   ·obtain rfl:ex=true:=ae;refine⟨_,c,by rw[h2],(show xs.length≤c by omega),.inr ⟨g,q0,sz,rfl,⟨hg,aa g ab⟩,h7,?_⟩⟩;simp only[Kg] at h9;exact h9.mono' ⟨fun b hb=>⟨hI b hb.1,hb.2⟩,fun _ _=>rfl⟩ rfl
 ·cases he
theorem Zoj (h:Uo Γ w I F A hp) (aa:∀ b,F b→A b) {x:AV} {v:Value} (hx:Rep Γ w I x v) {q:D×Bool×List Nat} (hg:U7 hp x=some q) :
  U9 Γ w I A hp q.2.2 q.2.1 fun S=>Xj w S q.1 v:=by
 unfold U7 at hg;split at hg
 ·cases hg;have h1:=QR.1 hx;exact fun I' hI _=>⟨h1.mono (Uy hI),fun ab=>ZlE ab h1⟩
 ·cases hg;obtain⟨ad,rfl⟩:=hx;have:∀ S,Xj w S (.sl []) (.slice ad 0 0):=fun S=>⟨ad,0,rfl,by simp,.inl rfl⟩
  exact fun I' hI _=>⟨this _,fun _=>this _⟩
 ·obtain⟨qq,h1,hg⟩:=Za hg;cases hg;obtain⟨ad,n,c,sz,h2,h3⟩:=ZrQ h aa h1;obtain⟨ae,n',c',af,h4,rfl⟩:=hx;rw[h2] at h4;cases h4;exact h3
 ·cases hg
theorem U9.more {ids aa : List Nat} {cl ad : Bool} {Q:(Nat→Prop)→Prop} (h:U9 Γ w I A hp ids cl Q) (hi:∀ id∈ids,id∈aa) (hc:ad=true→cl=true):U9 Γ w I A hp aa ad Q:=
 fun I' hI hf=>⟨(h I' hI fun id ab=>hf id (hi id ab)).1,fun ae=>(h I' hI fun id ab=>hf id (hi id ab)).2 (hc ae)⟩
theorem U9.and {ids:List Nat} {cl:Bool} {Q R S:(Nat→Prop)→Prop} (h:U9 Γ w I A hp ids cl Q) (k:U9 Γ w I A hp ids cl R) (hs:∀ I',Q I'→R I'→S I'):U9 Γ w I A hp ids cl S:=
 fun I' hI hf=>⟨hs _ (h I' hI hf).1 (k I' hI hf).1,fun aa=>hs _ ((h I' hI hf).2 aa) ((k I' hI hf).2 aa)⟩
theorem Zj2 (h:Uo Γ w I F A hp) (ab:∀ b,F b→A b):∀ {xs:List AV} {vs:List Value},Zr (XX Γ w I) xs vs→∀ {q:List D×Bool×List Nat},YS hp xs=some q →
  U9 Γ w I A hp q.2.2 q.2.1 fun S=>QE w S q.1 vs
 | [],[],_,q,hg=>by
  simp only[YS] at hg;cases hg;exact fun I' hI hf=>⟨by simp[QE],fun _=>by simp[QE]⟩
 | [],_ :: _,h,_,_=>h.elim
 | _ :: _,[],h,_,_=>h.elim
 | x :: xs,v :: vs,hr,q,hg=>by
  simp only[YS] at hg;obtain⟨q1,h1,hg⟩:=Za hg;obtain⟨q2,h2,hg⟩:=Za hg;split at hg
  ·rename_i hc;cases hg;simp only[Kb] at hc;have e1:=Zoj h ab hr.1.rep2.rep h1;have e2:=Zj2 h ab hr.2 h2;refine U9.and (e1.more (by simp;exact fun id aa=>.inl aa) (by simp;exact fun h _=>h)) (e2.more (by simp;exact fun id aa=>.inr aa) (by simp)) fun I' hq hr=>?_;exact⟨v,vs,rfl,hc.1,(Xj.one hc.1).1 hq,hr⟩
  ·cases hg
theorem ZuB (h:Uo Γ w I F A hp) (aa:∀ b,F b→A b) {x:AV} {v:Value} (hx:Rep Γ w I x v) {q:D×Bool×List Nat} (hg:give hp x=some q) :
  U9 Γ w I A hp q.2.2 q.2.1 fun S=>Xj w S q.1 v:=by
 unfold give at hg;split at hg
 ·obtain⟨p,h1,hg⟩:=Za hg;cases hg;obtain⟨vs,rfl,h2⟩:=hx;have:=Zj2 h aa h2 h1;exact fun I' hI hf=>⟨⟨vs,rfl,(this I' hI hf).1⟩,fun ab=>⟨vs,rfl,(this I' hI hf).2 ab⟩⟩
 ·exact Zoj h aa hx hg
theorem Zj3 (h:Uo Γ w I F A hp) (ab:∀ b,F b→A b):∀ {xs:List AV} {vs:List Value},Zr (Rep Γ w I) xs vs→∀ {q:List D×Bool×List Nat},VG hp xs=some q →
  U9 Γ w I A hp q.2.2 q.2.1 fun S=>Zr (Xj w S) q.1 vs
 | [],[],_,q,hg=>by
  simp only[VG] at hg;cases hg;exact fun I' hI hf=>⟨trivial,fun _=>trivial⟩
 | [],_ :: _,h,_,_=>h.elim
 | _ :: _,[],h,_,_=>h.elim
 | x :: xs,v :: vs,hr,q,hg=>by
  simp only[VG] at hg;obtain⟨q1,h1,hg⟩:=Za hg;obtain⟨q2,h2,hg⟩:=Za hg;split at hg
  ·cases hg;have e1:=ZuB h ab hr.1 h1;have e2:=Zj3 h ab hr.2 h2;exact U9.and (e1.more (by simp;exact fun id aa=>.inl aa) (by simp;exact fun h _=>h)) (e2.more (by simp;exact fun id aa=>.inr aa) (by simp)) fun I' hq hr=>⟨hq,hr⟩
  ·cases hg
theorem U9.froze {ids:List Nat} {cl:Bool} {Q:(Nat→Prop)→Prop} (h:U9 Γ w I A hp ids cl Q) (hq:∀ S S' : Nat→Prop,(∀ b,S b→S' b)→Q S→Q S') :
  Q (if cl then fun b=>Q2 Γ w hp I ids b∧A b else Q2 Γ w hp I ids):=by
 have:=h (Q2 Γ w hp I ids) (fun b hb=>.inl hb) fun id aa sz xs ex b hl hb=>.inr ⟨id,aa,_,hl,rfl,.inl hb⟩;cases cl
 ·exact this.1
 ·exact this.2 rfl
theorem Zha:∀ (us vs:List Value) (off:Nat),(Zgu vs off us).length=vs.length
 | [],_,_=>rfl
 | u :: us,vs,off=>by simp[Zgu,Zha us]
theorem Zok:∀ (us vs:List Value) (off i:Nat),off+us.length≤vs.length→(Zgu vs off us)[i]?=if off≤i∧i<off+us.length then us[i-off]? else vs[i]?
 | [],vs,off,i,_=>by
  simp only[Zgu,KD,L1];rw[Kl (by omega)]
 | u :: us,vs,off,i,h=>by
  simp only[Ki] at h;simp only[Zgu];rw[Zok us _ _ i (by simp;omega)];simp only[Ki];by_cases h1:i=off
  ·subst h1;rw[Kl (by omega),Km (by omega)];have:i<vs.length:=by omega
   simp[this]
  ·by_cases h2:off+1≤i∧i<off+1+us.length
   ·rw[Km h2,Km (by omega)];have:i-off=(i-(off+1))+1:=by omega
    rw[this];simp
   ·rw[Kl h2,Kl (by omega)];rw[Lc (by omega)]
theorem Zj4 (sz:Nat):∀ (ps:List Value) (k:Nat) (vs:Array Value),(∀ v∈ps,v.cells.size=sz)→(k+ps.length)*sz≤vs.size →
  ∃ aa,Instr.fill (fun i=>some (i*sz,sz)) vs ((ps.zipIdx k).map fun x=>(x.2,x.1))=some aa∧aa.size=vs.size ∧
   (∀ i,i<k*sz→aa[i]?=vs[i]?)∧(∀ i,(k+ps.length)*sz≤i→aa[i]?=vs[i]?) ∧
   ∀ j u,((ps.map fun v=>v.cells.toList).flatten)[j]?=some u→aa[k*sz+j]?=some u
 | [],k,vs,_,_=>⟨vs,rfl,rfl,fun _ _=>rfl,fun _ _=>rfl,fun j u hu=>by simp at hu⟩
 | p :: ps,k,vs,hsz,hle=>by
  have hp:=hsz p (by simp);simp only[Ki] at hle;have ag:(k+1)*sz≤vs.size:=Le (KF _ (by omega)) hle;have af:(k+1)*sz=k*sz+sz:=by rw[KI];omega
  have ab:(p.cells.zipIdx.foldl (fun cs (x:Value×Nat)=>cs.setIfInBounds (k*sz+x.2) x.1) vs).toList=Zgu vs.toList (k*sz) p.cells.toList:=ZlH _ _ _;have ae:∀ i,(p.cells.zipIdx.foldl (fun cs (x:Value×Nat)=>cs.setIfInBounds (k*sz+x.2) x.1) vs)[i]?=if k*sz≤i∧i<k*sz+sz then p.cells[i-k*sz]? else vs[i]?:=by
   intro i;rw[← LM,ab,Zok _ _ _ _ (by simp[hp];omega)];simp[hp]
  have ad:(p.cells.zipIdx.foldl (fun cs (x:Value×Nat)=>cs.setIfInBounds (k*sz+x.2) x.1) vs).size=vs.size:=by
   rw[← KW,ab,Zha];simp
  obtain⟨aa,h1,h2,h3,h4,h5⟩:=Zj4 sz ps (k+1) (p.cells.zipIdx.foldl (fun cs (x:Value×Nat)=>cs.setIfInBounds (k*sz+x.2) x.1) vs) (fun v hv=>hsz v (by simp[hv])) (by rw[ad];rw[show k+1+ps.length=k+(ps.length+1) by omega];exact hle);refine⟨aa,?_,by rw[h2,ad],?_,?_,?_⟩
  ·simp only[List.zipIdx_cons,Kn,Instr.fill];have c1:¬(p.cells.size≠sz):=by simp[hp]
   have c2:¬(k*sz+p.cells.size>vs.size):=by rw[hp];omega
   simp only[c1,c2,decide_false,Bool.or_self,Ka,Kf];exact h1
  ·intro i hi;rw[h3 i (by omega),ae,Kl (by omega)]
  ·intro i hi;simp only[Ki] at hi;have:(k+1+ps.length)*sz≤i:=by rw[show k+1+ps.length=k+(ps.length+1) by omega];exact hi
   have h6:(k+1)*sz≤i:=Le (KF _ (by omega)) this;rw[h4 i this,ae,Kl (by omega)]
  ·intro j u hu;simp only[Kn,K0,Kaa,KW,hp] at hu;split at hu
   ·rename_i hj;have h6:aa[k*sz+j]?=(p.cells.zipIdx.foldl (fun cs (x:Value×Nat)=>cs.setIfInBounds (k*sz+x.2) x.1) vs)[k*sz+j]?:=h3 _ (by omega);rw[h6,ae,Km (by omega)];have:k*sz+j-k*sz=j:=by omega
    rw[this];simpa using hu
   ·rename_i hj;have:=h5 (j-sz) u hu;rw[af] at this;have he:k*sz+sz+(j-sz)=k*sz+j:=by omega
    rw[← he];exact this
end
end Go.Abs
