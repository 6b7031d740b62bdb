/- Own text. -/
import Derived.Test.YtefabmohhbhlfaaAbsStep9
import Derived.Test.YtefabmohhbhlfaaAbsCall3
set_option linter.unusedVariables false
set_option linter.unusedSimpArgs false
namespace Go.Abs
open Go
section
variable {P:Program} {nt:Nat} {U:Nat→Prop} {F A I:Nat→Prop} {Γ:Gh} {sl:Sl} {hp:Hp} {a:Act} {w:World}
theorem Sim.takes (h:Sim nt F A I Γ U sl hp a w) {base:Nat} (hb:Qx U base) {dels:List Nat} {o1:Zh} {r:Ref} {w' : World} (ay:w.heap.size≤w'.heap.size) (a2:w'.os=w.os) (af:w'.tape=w.tape) (al:w'.output=w.output)
  (ae:∀ k,k<w.heap.size→w'.heap[k]?=w.heap[k]?∨(∃ id∈dels,∃ o,lkp hp id=some o∧Blk Γ w id o k)∧¬I k)
  (a3:XF (upd Γ base r) w' I F A base o1) {v:AV} {u:Value} {dst:Option Nat} (am:Rep (upd Γ base r) w' I v u) (an:Qm nt dst=true)
  (ao:∀ b,Blk (upd Γ base r) w' base o1 b→w.heap.size≤b∨∃ id∈dels,∃ o,lkp hp id=some o∧Blk Γ w id o b) :
  X9 nt F A I Γ w (Wb U base) (Zi sl dst v) (Zd (ZP hp dels) [(base,o1)]) (a.put dst u) w':=by
 have aa:ZB I I w w':=⟨fun _ h=>h,fun b ah=>(ae b (h.bound b ah)).elim id fun hh=>absurd ah hh.2⟩
 have hk:ZY Γ (upd Γ base r):=Yd _ (h.names base hb.self);have hF:∀ k,k<w.heap.size→¬F k→w'.heap[k]?=w.heap[k]?:=fun k hk hf=>(ae k hk).elim id fun ⟨⟨id,_,o,hl,ab⟩,_⟩=>absurd (ZdK (h.objs id o hl) ab) hf;refine⟨I,upd Γ base r,hk,aa,fun _ h=>.inl h,⟨a2,af,al,ay,hF⟩,?_⟩;have ap:∀ i o,lkp (Zd (ZP hp dels) [(base,o1)]) i=some o→(i=base∧o=o1)∨(i≠base∧i∉dels∧lkp hp i=some o):=by
  intro i o hi;simp only[Zd,ZW] at hi;split at hi
  ·rename_i e;cases hi;exact .inl ⟨e.symm,rfl⟩
  ·rename_i e;obtain⟨h1,h2⟩:=YO _ _ _ _ hi;exact .inr ⟨fun e'=>e e'.symm,h2,h1⟩
 have ag:∀ i o b,i∉dels→lkp hp i=some o→Blk Γ w i o b→w'.heap[b]?=w.heap[b]?:=fun i o b hn hl ab=>
  (ae b (h.blk_lt hl ab)).elim id fun ⟨⟨id,aq,o',a4,ah⟩,_⟩=>absurd (h.inj i id o o' b hl a4 ab ah ▸ aq) hn
 have ai:∀ i o b,i≠base→i∉dels→lkp hp i=some o→Blk (upd Γ base r) w' i o b→Blk Γ w i o b:=fun i o b h1 h2 h3 h4=>
  h4.back (h.objs i o h3) (Qg _ _ h1) fun g' a5=>ag i o g' h2 h3 a5
 refine h.next hk aa ?_ ?_ (fun b hI=>by have:=h.bound b hI;omega) ay (fun k az=>by rw[Qg _ _ (fun e=>az (.inr (by omega)))];exact h.names k (fun hu=>az (.inl hu))) am an
 ·intro i o hi;rcases ap i o hi with ⟨rfl,rfl⟩ | ⟨a6,ar,hm⟩
  ·exact a3
  ·exact(h.objs i o hm).mono hk aa fun b ab=>⟨ag i o b ar hm ab,fun h=>h⟩
 ·have ad:∀ j o' b,j∉dels→lkp hp j=some o'→Blk Γ w j o' b→Blk (upd Γ base r) w' base o1 b→False:=by
   intro j o' b hj hl ab hn;rcases ao b hn with h1 | ⟨id,aq,o,h1,h2⟩
   ·have:=h.blk_lt hl ab;omega
   ·exact hj (h.inj j id o' o b hl h1 ab h2 ▸ aq)
  intro i j o o' b hi hj au av;rcases ap i o hi with ⟨rfl,rfl⟩ | ⟨a0,aw,aj⟩<;>rcases ap j o' hj with ⟨rfl,rfl⟩ | ⟨a1,ax,ak⟩
  ·rfl
  ·exact(ad j o' b ax ak (ai j o' b a1 ax ak av) au).elim
  ·exact(ad i o b aw aj (ai i o b a0 aw aj au) av).elim
  ·exact h.inj i j o o' b aj ak (ai i o b a0 aw aj au) (ai j o' b a1 ax ak av)
theorem ZpZ {ns:Nat} {v:Value} {d:D} (h:Zc0 v=some d):Z6 w ns [] d v:=by
 unfold Zc0 at h;split at h<;>cases h
 ·simp[Z6]
 ·simp[Z6]
 ·simp only[Z6];exact⟨⟨_,rfl,rfl⟩,trivial⟩
 ·simp only[Z6];exact⟨none,0,rfl,Kh _,.inl ⟨rfl,trivial⟩⟩
theorem Zj8 {ns:Nat}:∀ {vs:List Value} {ds:List D},Qb Zc0 vs=some ds→ZV w ns [] ds vs
 | [],ds,h=>by simp only[Qb] at h;cases h;simp[ZV]
 | v :: vs,ds,h=>by
  simp only[Qb] at h;obtain⟨d,h1,h⟩:=Za h;obtain⟨aa,h2,h⟩:=Za h;cases h;simp only[ZV];exact⟨v,vs,[],[],rfl,rfl,ZpZ h1,Zj8 h2⟩
theorem Zsf {ns:Nat} {v:Value} {d:D} (h:evD v=some d) (ha:d.isAgg=true):QH w ns [] d v.cells.toList:=by
 unfold evD at h;split at h
 ·obtain⟨ds,h1,h⟩:=Za h;cases h;simp only[QH,Value.cells];exact Zj8 h1
 ·unfold Zc0 at h;split at h<;>cases h<;>cases ha
theorem ZbD {g sz ns:Nat} {d:D} {c:List Value} (hl:c.length=sz) (hd:QH w ns [] d c):∀ (n o:Nat),Z7 w g o (List.replicate n c).flatten→ZK w ns [] g sz (List.replicate n d) o
 | 0,o,_=>by simp[ZK]
 | n+1,o,h=>by
  simp only[LC,KA] at h;simp only[LC,ZK];refine⟨c,[],[],rfl,hl,fun j u hu=>h j u ?_,hd,ZbD hl hd n (o+sz) fun j u hu=>?_⟩
  ·rw[Kr (Kc.1 hu).1];exact hu
  ·have:=h (c.length+j) u (by rw[Kp (by omega),Lc];exact hu);rw[← KI,hl] at this;exact this
theorem Zq7 (h:Sim nt F A I Γ U sl hp a w) {o:Oper} {t e:TypeId} {l c:Operand} {l' c' : Opd} {z:Value} {d:D} (ho:o.op=.makeSlice t l c) (he:Q8 P t=some e) (hl:ZJ l=some l') (hc:ZJ c=some c')
  (hz:W2 P e=some z) (am:evD z=some d) (an:Ve P e=true) {base ns:Nat} (hb:Qx U base) (hd:Qm nt o.dst=true) {ce:Zb} {n m:Int} (hn:idx (evO sl l')=some n) (hm:idx (evO sl c')=some m)
  (hv:makeT base (P.cellsOf e) (P.bytesOf e) ns d n m=some ce):JJ P nt F A I Γ U sl hp a w o base ce:=by
 obtain⟨i,z',hi,ai,aj,ag,ab,ad⟩:=XS an;obtain⟨i',ak,ae⟩:=Zal hz;rw[hi] at ak;cases ak;rw[ai] at ae;cases ae;obtain⟨k1,e1⟩:=Yr hn (h.slOK.ev hl);obtain⟨k2,e2⟩:=Yr hm (h.slOK.ev hc);unfold makeT at hv;split at hv
 ·rename_i af;obtain⟨c1,c2,c3,c4,c5,c6⟩:=af;cases hv;rw[ab] at c5 ⊢;rw[ad] at c3;have hr:=run_make (P:=P) w t e i z (Qp he) hi ai k1 k2 n m c1 c2 (by have h2:=c3;rw[Int.mul_comm] at h2;simp only[Zz] at h2;omega) (by simp only[Zz] at c4;omega);refine⟨.slice (some ⟨w.heap.size,0,none⟩) n.toNat m.toNat,w.alloc (.cells (madeCells z.cells (m.toNat*i.size)) e),.inl (by simp[execOp,ho,e1,e2,hr]),?_⟩;rw[QB];have al : (w.alloc (.cells (madeCells z.cells (m.toNat*i.size)) e)).heap[w.heap.size]?=some (.cells (madeCells z.cells (m.toNat*i.size)) e (0,0)):=heap_alloc_new w _;have hT:ZK (w.alloc (.cells (madeCells z.cells (m.toNat*i.size)) e)) ns [] w.heap.size i.size (List.replicate n.toNat d) 0:=by
   refine ZbD (by simp[aj]) (Zsf am c6) n.toNat 0 (Ya al (ys:=(List.replicate (m.toNat-n.toNat) z.cells.toList).flatten) ?_);rw[← aj,WH,← La,List.replicate_append_replicate];congr 2
   omega
  have ao:F w.heap.size:=h.fresh _ (Kh _);have ap:¬I w.heap.size:=fun hi=>absurd (h.bound _ hi) (by omega);refine h.takes hb (w':=w.alloc (.cells (madeCells z.cells (m.toNat*i.size)) e)) (dels:=[]) (r:=.row (some ⟨w.heap.size,0,none⟩) n.toNat m.toNat i.size) (by simp) rfl rfl rfl (fun k hk=>.inl (Xd w _ k hk)) ?_ ⟨_,_,_,_,Zw _ _ _,rfl⟩ hd fun b aa=>?_
  ·refine⟨_,n.toNat,m.toNat,Zw _ _ _,⟨by simp,?_⟩,trivial⟩;rcases Lq m.toNat with ah | ah
   ·exact .inl ⟨by omega,ah,rfl⟩
   ·exact .inr ⟨_,_,e,[],rfl,ah,al,by omega,by simp only[Zz] at c4;simp only[maxLen];omega,size_madeCells _ _,ag,hT,by simp,fun b hb=>by simp at hb;subst hb;exact⟨ap,ao⟩⟩
  ·rcases aa with aa | ⟨g,B,hg,hB,aa⟩ | aa
   ·rw[WD,Zw] at aa;simp only[Zp] at aa;split at aa
    ·cases aa
    ·cases aa;exact .inl (Kh _)
   ·rw[Zw] at hg;simp only[Zp] at hg;split at hg
    ·cases hg
    ·cases hg;cases ZK.uniq hT hB;simp at aa
   ·exact aa.elim
 ·cases hv
theorem Zq8 {ns:Nat} {B:List Nat} {d:D} {v:Value} (h:Z6 w ns B d v):v.oneCell'=true:=by
 cases d with
 | sl ys=>simp only[Z6] at h;obtain⟨a,c,rfl,_⟩:=h;rfl
 | agg cs=>simp only[Z6] at h
 | int k n=>simp only[Z6] at h;rw[h.1];rfl
 | bool b=>simp only[Z6] at h;rw[h.1];rfl
 | str s=>simp only[Z6] at h;obtain⟨⟨t,rfl,_⟩,_⟩:=h;rfl
theorem Zmw {ns:Nat}:∀ {ds:List D} {B:List Nat} {vs:List Value},ZV w ns B ds vs→∀ v∈vs,v.oneCell'=true
 | [],_,_,h,v,hv=>by simp only[ZV] at h;rw[h.1] at hv;simp at hv
 | d :: ds,_,_,h,v,hv=>by
  simp only[ZV] at h;obtain⟨u,r,B1,B2,rfl,rfl,h2,h3⟩:=h;rcases Kf.1 hv with rfl | hv
  ·exact Zq8 h2
  ·exact Zmw h3 v hv
theorem ZhP {ns g sz:Nat}:∀ {xs:List D} {B:List Nat} {o:Nat},ZK w ns B g sz xs o→∃ os:List Value,os.length=xs.length*sz∧Z7 w g o os∧(∀ v∈os,v.oneCell'=true) ∧
  ∀ (w' : World) (g' o' : Nat),(∀ b∈B,w'.heap[b]?=w.heap[b]?)→Z7 w' g' o' os→ZK w' ns B g' sz xs o'
 | [],B,o,h=>⟨[],by simp,fun j u hu=>by simp at hu,fun v hv=>by simp at hv,fun w' g' o' _ _=>by simpa only[ZK] using h⟩
 | d :: ds,B,o,h=>by
  simp only[ZK] at h;obtain⟨vs,B1,B2,rfl,h1,h2,h3,h4⟩:=h;obtain⟨os,k1,k2,k3,k4⟩:=ZhP h4;refine⟨vs++os,by simp only[Kj,Kg,h1,k1,KG];omega,fun j u hu=>?_,fun v hv=>?_,fun w' g' o' hk aa=>?_⟩
  ·rw[L3] at hu;split at hu
   ·exact h2 j u hu
   ·have:=k2 _ u hu;have e:o+sz+(j-vs.length)=o+j:=by omega
    rwa [e] at this
  ·rcases Kd.1 hv with hv | hv
   ·exact Zmw h3.cells v hv
   ·exact k3 v hv
  ·simp only[ZK];refine⟨vs,B1,B2,rfl,h1,fun j u hu=>aa j u ?_,h3.mono fun b hb=>hk b (by simp[hb]),k4 w' g' (o'+sz) (fun b hb=>hk b (by simp[hb])) fun j u hu=>?_⟩
   ·rw[Kr (Kc.1 hu).1];exact hu
   ·have:=aa (vs.length+j) u (by rw[Kp (by omega),Lc];exact hu)
    rwa [← KI,h1] at this
theorem ZcY (h:Sim nt F A I Γ U sl hp a w) {ns s:Nat}:∀ {vs:List AV} {us:List Value} {q:List D×List Nat},Zq (Rep Γ w I) vs us→XY hp ns s vs=some q →
  ∃ B,B.Nodup∧(∀ b∈B,¬I b∧F b)∧(∀ b∈B,∃ id∈q.2,∃ o,lkp hp id=some o∧Blk Γ w id o b)∧(∀ u∈us,u.cells.size=s)∧q.1.length=us.length ∧
   ∀ (w' : World) (g o:Nat),(∀ b∈B,w'.heap[b]?=w.heap[b]?)→Z7 w' g o (us.map fun u=>u.cells.toList).flatten→ZK w' ns B g s q.1 o
 | [],[],q,_,hq=>by
  simp only[XY] at hq;cases hq;exact⟨[],Lm,fun b hb=>by simp at hb,fun b hb=>by simp at hb,fun u hu=>by simp at hu,rfl,fun w' g o _ _=>by simp[ZK]⟩
 | [],_ :: _,_,h,_=>h.elim
 | _ :: _,[],_,h,_=>h.elim
 | x :: vs,u :: us,q,hr,hq=>by
  cases x with
  | agg cs=>
   simp only[XY] at hq;obtain⟨q1,h1,hq⟩:=Za hq;obtain⟨q2,h2,hq⟩:=Za hq;split at hq
   ·rename_i hc;obtain⟨hl,hc⟩:=hc;cases hq;obtain⟨ws,rfl,ah⟩:=hr.1;obtain⟨B1,j1,j2,j3,j4⟩:=ZdR h ah h1;obtain⟨B2,k1,k2,k3,k4,k5,k6⟩:=ZcY h hr.2 h2;have ab:ws.size=s:=by have:=j1.length;simp at this;omega
    refine⟨B1++B2,LJ.2 ⟨j2,k1,fun b hb b' ai e=>?_⟩,fun b hb=>?_,fun b hb=>?_,fun u hu=>?_,by simp[k5],fun w' g o hk ad=>?_⟩
    ·subst e;obtain⟨id,aa,o,hl,aj⟩:=j4 b hb;obtain⟨ak,ae,o',al,af⟩:=k3 b ai;have:=h.inj id ak o o' b hl al aj af;subst this;simp only[KO] at hc;have:(q1.2.any q2.2.contains)=true:=Lr.2 ⟨id,aa,by simpa using ae⟩;rw[this] at hc;cases hc
    ·rcases Kd.1 hb with hb | hb
     ·exact j3 b hb
     ·exact k2 b hb
    ·rcases Kd.1 hb with hb | hb
     ·obtain⟨id,aa,hh⟩:=j4 b hb;exact⟨id,by simp[aa],hh⟩
     ·obtain⟨id,aa,hh⟩:=k3 b hb;exact⟨id,by simp[aa],hh⟩
    ·rcases Kf.1 hu with rfl | hu
     ·exact ab
     ·exact k4 u hu
    ·simp only[Kq,KA,Value.cells] at ad;simp only[ZK];refine⟨ws.toList,B1,B2,rfl,by simpa using ab,fun j u hu=>ad j u ?_,ZhO (j1.mono fun b hb=>hk b (by simp[hb])),k6 w' g (o+s) (fun b hb=>hk b (by simp[hb])) fun j u hu=>?_⟩
     ·rw[Kr (Kc.1 hu).1];exact hu
     ·have:=ad (ws.toList.length+j) u (by rw[Kp (by omega),Lc];exact hu)
      rwa [← KI,KU,ab] at this
   ·cases hq
  | own id0=>
   simp only[XY] at hq;obtain⟨q1,h1,hq⟩:=Za hq;obtain⟨q2,h2,hq⟩:=Za hq;split at hq
   ·rename_i hc;obtain⟨hl,hc⟩:=hc;cases hq;have ah:Zq (XA Γ w I) [.own id0] [u]:=⟨hr.1,trivial⟩
    have ag:u.cells.toList=[u]:=by obtain⟨_,_,_,_,_,rfl⟩:=hr.1;rfl
    obtain⟨B1,j1,j2,j3,j4⟩:=ZdR h ah h1;obtain⟨B2,k1,k2,k3,k4,k5,k6⟩:=ZcY h hr.2 h2;have ab:u.cells.size=s:=by
     have:=j1.length;rw[← KU,ag];simp at this ⊢;omega
    refine⟨B1++B2,LJ.2 ⟨j2,k1,fun b hb b' ai e=>?_⟩,fun b hb=>?_,fun b hb=>?_,fun u' hu=>?_,by simp[k5],fun w' g o hk ad=>?_⟩
    ·subst e;obtain⟨id,aa,o,hl,aj⟩:=j4 b hb;obtain⟨ak,ae,o',al,af⟩:=k3 b ai;have:=h.inj id ak o o' b hl al aj af;subst this;simp only[KO] at hc;have:(q1.2.any q2.2.contains)=true:=Lr.2 ⟨id,aa,by simpa using ae⟩;rw[this] at hc;cases hc
    ·rcases Kd.1 hb with hb | hb
     ·exact j3 b hb
     ·exact k2 b hb
    ·rcases Kd.1 hb with hb | hb
     ·obtain⟨id,aa,hh⟩:=j4 b hb;exact⟨id,by simp[aa],hh⟩
     ·obtain⟨id,aa,hh⟩:=k3 b hb;exact⟨id,by simp[aa],hh⟩
    ·rcases Kf.1 hu with rfl | hu
     ·exact ab
     ·exact k4 u' hu
    ·simp only[Kq,KA,ag] at ad;simp only[ZK];refine⟨[u],B1,B2,rfl,by rw[← ag,KU];exact ab,fun j u' hu=>ad j u' ?_,ZhO (j1.mono fun b hb=>hk b (by simp[hb])),k6 w' g (o+s) (fun b hb=>hk b (by simp[hb])) fun j u' hu=>?_⟩
     ·rw[Kr (Kc.1 hu).1];exact hu
     ·have:=ad ([u].length+j) u' (by rw[Kp (by omega),Lc];exact hu)
      rwa [← KI,show [u].length=s by rw[← ag,KU];exact ab] at this
   ·cases hq
  | _=>simp[XY] at hq
theorem Sim.newTree (h:Sim nt F A I Γ U sl hp a w) {base:Nat} (hb:Qx U base) {dels:List Nat} {w' : World} {g n c sz ns:Nat} {xs:List D} {B:List Nat} {cur:Array Value} {e:TypeId} (al:w.heap.size≤w'.heap.size) (am:w'.os=w.os) (ab:w'.tape=w.tape) (af:w'.output=w.output)
  (ag:∀ k,k<w.heap.size→k≠g→w'.heap[k]?=w.heap[k]?) (ad:w.heap.size≤g∨∃ id∈dels,∃ o,lkp hp id=some o∧Blk Γ w id o g) (ak:¬I g) (an:F g)
  (hn:n=xs.length) (hc:0<c) (ae:w'.heap[g]?=some (.cells cur e (0,0))) (ao:n≤c) (ap:c≤maxLen) (aq:cur.size=c*sz) (ah:0<sz) (hT:ZK w' ns B g sz xs 0) (ar:(g :: B).Nodup)
  (hB:∀ b∈B,¬I b∧F b) (au:∀ b∈B,∃ id∈dels,∃ o,lkp hp id=some o∧Blk Γ w id o b) {dst:Option Nat} (hd:Qm nt dst=true) :
  X9 nt F A I Γ w (Wb U base) (Zi sl dst (.own base)) (Zd (ZP hp dels) [(base,.tree sz ns xs none)]) (a.put dst (.slice (some ⟨g,0,none⟩) n c)) w':=by
 have ai:∀ k,k<w.heap.size→w'.heap[k]?=w.heap[k]?∨(∃ id∈dels,∃ o,lkp hp id=some o∧Blk Γ w id o k)∧¬I k:=by
  intro k hk;by_cases e:k=g
  ·subst e;rcases ad with ad | ad
   ·omega
   ·exact .inr ⟨ad,ak⟩
  ·exact .inl (ag k hk e)
 refine h.takes hb (r:=.row (some ⟨g,0,none⟩) n c sz) al am ab af ai ?_ ⟨_,_,_,_,Zw _ _ _,rfl⟩ hd ?_
 ·refine⟨_,_,_,Zw _ _ _,⟨hn,.inr ⟨g,cur,e,B,rfl,hc,ae,ao,ap,aq,ah,hT,ar,fun b hb=>?_⟩⟩,trivial⟩;rcases Kf.1 hb with rfl | hb
  ·exact⟨ak,an⟩
  ·exact hB b hb
 ·intro b aa;rcases aa with aa | ⟨g',B',aj,av,aa⟩ | aa
  ·rw[WD,Zw] at aa;simp[Zp,Ku hc] at aa;subst aa;exact ad
  ·rw[Zw] at aj;simp[Zp,Ku hc] at aj;subst aj;cases ZK.uniq hT av;exact .inr (au b aa)
  ·exact aa.elim
theorem Zp0 (h:Sim nt F A I Γ U sl hp a w) {o:Oper} {t e:TypeId} {n ns:Nat} {ps:Array (Nat×Operand)} {ys:List Opd} (ho:o.op=.buildSlice t n ps) (he:Q8 P t=some e)
  (am:Qb (fun q:Nat×Operand=>ZJ q.2) ps.toList=some ys) (ah:ps.toList.map (·.1)=List.range n) (ab:n*P.cellsOf e≤16777216) (ai:Ve P e=true) {base:Nat} (hb:Qx U base) (hd:Qm nt o.dst=true)
  {ce:Zb} (hv:buildT hp base (P.cellsOf e) ns (evL sl ys)=some ce):JJ P nt F A I Γ U sl hp a w o base ce:=by
 obtain⟨i,z,hi,hz,ap,af,aa,ag⟩:=XS ai;have hr:∀ {ps:List (Nat×Operand)} {ys:List Opd},Qb (fun q:Nat×Operand=>ZJ q.2) ps=some ys→Zq (Rep Γ w I) (evL sl ys) (ps.map fun x=>a.eval x.2):=by
  intro ps
  induction ps with
  | nil=>intro ys hy;simp only[Qb] at hy;cases hy;exact trivial
  | cons p ps ih=>
   intro ys hy;simp only[Qb] at hy;obtain⟨y,h1,hy⟩:=Za hy;obtain⟨aq,h2,hy⟩:=Za hy;cases hy;exact⟨h.slOK.ev h1,ih h2⟩
 have ad:=hr am;have hn:n=ps.toList.length:=by have:=congrArg List.length ah;simpa using this.symm
 unfold buildT at hv;split at hv
 ·rename_i aj;obtain⟨q,h1,hv⟩:=Za hv;cases hv;obtain⟨B,k1,k2,k3,k4,k5,k6⟩:=ZcY h ad h1;obtain⟨cells,h2,h3,h4⟩:=Zfy (w:=w) (a:=a) ho he ah ab ai k4;have an:0<n:=by
   have:=ad.length;simp only[Kw] at this;rw[← hn] at this;rcases Lq n with h0 | h0
   ·rw[h0] at this;rw[Km this] at aj;cases aj
   ·exact h0
  refine⟨_,_,.inl h2,?_⟩;rw[QB];have ak : (w.alloc (.cells cells e)).heap[w.heap.size]?=some (.cells cells e (0,0)):=heap_alloc_new w _;have ae:∀ k,k<w.heap.size→(w.alloc (.cells cells e)).heap[k]?=w.heap[k]?:=fun k hk=>Xd w _ k hk;have al:∀ b∈B,b<w.heap.size:=fun b hb=>by
   obtain⟨id,_,o,hl,ao⟩:=k3 b hb;exact h.blk_lt hl ao
  refine h.newTree hb (w':=w.alloc (.cells cells e)) (by simp) rfl rfl rfl (fun k hk _=>ae k hk) (.inl (Kh _)) (fun hi=>absurd (h.bound _ hi) (by omega)) (h.fresh _ (Kh _)) (by rw[k5,hn,Kw]) an ak (Kh _)
   (by rw[aa] at ab;have:=Nat.le_mul_of_pos_right n af;simp only[maxLen];omega) h3 (by omega) (k6 _ _ 0 (fun b hb=>ae b (al b hb)) fun j u hu=>?_) (Ld.2 ⟨fun hm=>absurd (al _ hm) (by omega),k1⟩) k2 k3 hd
  rw[cell_of_row _ _ _ _ _ _ ak];simpa using h4 j u hu
 ·cases hv
theorem Zsg (h:Sim nt F A I Γ U sl hp a w) {o:Oper} {x:Operand} {y:Opd} {s n:Nat} (ho:o.op=.assign x) (hc:ZJ x=some y) {base:Nat} (hb:Qx U base) (hd:Qm nt o.dst=true) {ce:Zb}
  (hv:asgT base s n (evO sl y)=some ce):JJ P nt F A I Γ U sl hp a w o base ce:=by
 unfold asgT at hv;split at hv
 ·rename_i hy;cases hv;have h1:=h.slOK.ev hc;rw[hy] at h1;obtain⟨ad,h2⟩:=h1;refine⟨a.eval x,w,.inl (by simp[execOp,ho]),?_⟩;rw[QB,h2];refine h.takes hb (w':=w) (dels:=[]) (r:=.row ad 0 0 s) (Kh _) rfl rfl rfl (fun k _=>.inl rfl) ?_ ⟨_,_,_,_,Zw _ _ _,rfl⟩ hd fun b aa=>?_
  ·exact⟨_,_,_,Zw _ _ _,⟨rfl,.inl ⟨rfl,rfl,rfl⟩⟩,trivial⟩
  ·exact(aa.nil (by rw[Zw];cases ad<;>simp[Zp])).elim
 ·cases hv
end
end Go.Abs
