import Derived.Test.YtfnegoimdljanaaGreatDoorAbsCall3
set_option linter.unusedSimpArgs false
set_option linter.unusedVariables false
namespace Go.Abs
open Go
theorem Zk1 {α:Type} (zc:List α):∀ (n i j:Nat),i<n→j<zc.length→((List.replicate n zc).flatten)[i*zc.length+j]?=zc[j]?
 | 0,i,j,h,_=>by omega
 | n+1,0,j,_,hj=>by rw[LU,Lc,Nat.zero_mul,K8,KI hj]
 | n+1,i+1,j,h,hj=>by
  have e:(i+1)*zc.length+j=zc.length+(i*zc.length+j):=by rw[KR];omega
  rw[LU,Lc,e,KF o_,Lr];exact Zk1 zc n i j o_ hj
theorem ZuF {α:Type} (zc:List α) (n:Nat):((List.replicate n zc).flatten).length=n*zc.length:=by simp
section
variable {P:Program} {nt:Nat} {U:Nat→Prop} {F A I:Nat→Prop} {Γ:Gh} {sl:Sl} {hp:Hp} {a:Act} {w:World}
theorem ZBv (h:Sim nt F A I Γ U sl hp a w) {o:Oper} {t e:TypeId} {x:Operand} {x' : Opd} {z:Value} {d:D} (ho:o.op=.call { callee:=.builtin .clear,args := #[x],argTypes := #[t] }) (he:X4 P t=some e) (hx:ZW x=some x')
  (hz:Zan P e=some z) (an:evD z=some d) (a6:WC P e=true) {base:Nat} (hb:Xa U base) (hd:QP nt o.dst=true) {ce:Ze} (hv:Zgr (ZeS hp (P.cellsOf e) d (evO sl x'))=some ce):Zdz P nt F A I Γ U sl hp a w o base ce:=by
 obtain⟨i,z',hi,a7,bh,a8,ao,ap⟩:=YX a6;obtain⟨i',aw,ag⟩:=ZeN hz;rw[hi] at aw;cases aw;rw[a7] at ag;cases ag;unfold Zgr at hv;obtain⟨ef,h1,hv⟩:=Za hv;cases hv;have ax:=h.slOK.ev hx;unfold ZeS at h1;split at h1
 ·rename_i id off n a9;rw[a9] at ax;obtain⟨a0,m,c,sz,av,hb1,h2,h3,hb2,h4,h5⟩:=ax;unfold ZkE at h1;split at h1
  ·rename_i bi xs ex hl;split at h1
   ·rename_i hc;obtain⟨c1,c2,c3⟩:=hc;cases h1;obtain⟨ad,n',c',ay,hn,az⟩:=h.objs id _ hl;rw[hb1] at ay;cases ay;generalize P.cellsOf e=pe at *;subst c1;have run:∀ w' : World,(Builtin.clear_ #[t] o.type #[a.eval x]).run P w=.ok (.tuple #[]) w'→Zqi P o a w (.tuple #[]) w':=fun w' hr=>.inl (by
     simp only[execOp,ho,resolve,invoke,Sem.run_bind,Sem.run_pure,Result.andThen_ok];simp[builtin,hr])
    cases n with
    | zero=>
     refine⟨_,w,run w ?_,?_⟩
     ·rw[hb2];cases av<;>simp[Builtin.clear_,run_underlying (QV he)]
     ·rw[Xj];have ah:∀ k o',lkp (Zi (Zi (Z6 (Qm [] hp) []) [(id,.row sz (xs.take off++List.replicate 0 d++xs.drop (off+0)) ex false)]) []) k=some o'→lkp hp k=some o':=by
       intro k o' hk;simp only[Zi,Z6,Qm,Qg] at hk;split at hk
       ·rename_i e1;subst e1;simp at hk;rw[hl,← hk]
       ·exact hk
      exact(h.sub ah).pure (fun id hu=>.inl hu) ⟨#[],rfl,trivial⟩ hd
    | succ n=>
     rcases az with az | ⟨g,q0,cur,e',a',a1,hw,ba,bb,am,ai,aj,a2,a3⟩
     ·omega
     ·subst a';obtain⟨am,bc⟩:=am;have bd:av=some ⟨g,q0+off*sz,none⟩:=by
       rcases h5 with h5 | h5
       ·rw[h5];simp[VX]
       ·omega
      subst bd;simp only[Ka,Km] at aj;have ak:z.cells.toList.length=sz:=by rw[← c2];exact(ZoX (w:=w) (S:=I) an).length
      have be:=JO (w:=w) (S:=I) ak (ZoX an) (n+1);have a4:((List.replicate (n+1) z.cells.toList).flatten).length=(n+1)*sz:=by rw[ZuF,ak]
      have aq:=Zqm be;have bf:q0+off*sz+(n+1)*sz≤cur.size:=by
       rw[am,KS,← KR];exact L9 (KM _ o_) _
      have ar:=run_storeCells_at P g (q0+off*sz) e' ((List.replicate (n+1) z.cells.toList).flatten) 0 cur w hw (by rw[a4];simpa using bf) aq;have aa:(Builtin.zeroCells z.cells (n+1)).toList=(List.replicate (n+1) z.cells.toList).flatten:=JN z.cells (n+1);have al:cur.toList.take (q0+off*sz+0)++(List.replicate (n+1) z.cells.toList).flatten++cur.toList.drop (q0+off*sz+0+((List.replicate (n+1) z.cells.toList).flatten).length)=Zw cur.toList (q0+off*sz) ((List.replicate (n+1) z.cells.toList).flatten):=rfl;rw[al] at ar;generalize hZ:(List.replicate (n+1) z.cells.toList).flatten=Z at ar a4 aa al;refine⟨_,w.setRow g (Zw cur.toList (q0+off*sz) Z).toArray,run _ ?_,?_⟩
      ·rw[hb2];simp[Builtin.clear_,run_underlying (QV he),Zej hz,aa,ar]
      ·rw[Xj];have bg:¬(if ex then fun b=>I b∧A b else I) g:=by cases ex<;>simp<;>first | exact aj | exact fun hI=>absurd hI aj
       have au:(Zw cur.toList (q0+off*sz) Z).length=cur.size:=by rw[Vu];simp;simp;omega
       have ab:(w.setRow g (Zw cur.toList (q0+off*sz) Z).toArray).heap[g]?=some (.cells (Zw cur.toList (q0+off*sz) Z).toArray e' (0,0)):=setRow_heap w g cur _ e' _ hw;refine h.turn hb hl (by rw[hb1];simp[Zz,KE a1]) aj a2 (adds:=[]) (Qa.refl Γ) (fun _ _=>rfl) (fun k o hk=>by simp at hk) (fun k hk=>h.names k (fun hu=>hk (.inl hu))) ?_ ⟨#[],rfl,trivial⟩ hd;refine⟨_,m,c,hb1,by simp;omega,.inr ⟨g,q0,_,e',rfl,a1,ab,ba,bb,⟨by simp[au,am],bc⟩,ai,by simpa using aj,a2,?_⟩⟩;have keep:ZO (if ex then fun b=>I b∧A b else I) (if ex then fun b=>I b∧A b else I) w (w.setRow g (Zw cur.toList (q0+off*sz) Z).toArray):=UW bg
       have ae:∀ p,(w.setRow g (Zw cur.toList (q0+off*sz) Z).toArray).cell? ⟨g,p,none⟩=(Zw cur.toList (q0+off*sz) Z)[p]?:=fun p=>by
        rw[cell_of_row _ _ _ _ _ _ ab];simp
       have af:∀ p,w.cell? ⟨g,p,none⟩=cur.toList[p]?:=fun p=>by rw[cell_of_row _ _ _ _ _ _ hw];simp
       rw[X3] at a3 ⊢;have e3:xs.take off++List.replicate (n+1) d++xs.drop (off+(n+1))=Zw xs off (List.replicate (n+1) d):=by simp[Zw]
       intro k y hk;rw[e3,Qs _ _ _ _ (by simp;omega)] at hk;simp only[List.length_replicate] at hk;split at hk
       ·rename_i a5;have hy:y=d:=by
         have:=Kb hk;exact(List.mem_replicate.1 this).2
        subst hy;refine⟨z.cells.toList,ak,fun p u hu=>?_,ZoX an⟩;have hp:p<sz:=by rw[← ak];exact(Kc.1 hu).1
        have e4:q0+k*sz+p=q0+off*sz+((k-off)*sz+p):=by
         have:k=off+(k-off):=o_
         rw[this,KR];simp;omega
        have e5:(k-off)*sz+p<(n+1)*sz:=by
         have:(k-off+1)*sz≤(n+1)*sz:=KM _ o_;rw[KR] at this;omega
        rw[ae,e4,Qs _ _ _ _ (by simp;omega),Kj o_,Lr,← hZ];have:=Zk1 z.cells.toList (n+1) (k-off) p o_ o_;rw[ak] at this;rw[this];exact hu
       ·rename_i a5;obtain⟨vs,v1,v2,v3⟩:=a3 k y hk;refine⟨vs,v1,fun p u hu=>?_,v3.mono keep⟩;have hp:p<sz:=by rw[← v1];exact(Kc.1 hu).1
        have e6:¬(q0+off*sz≤q0+k*sz+p∧q0+k*sz+p<q0+off*sz+Z.length):=by
         rintro ⟨g1,g2⟩
         have g2:k*sz+p<off*sz+(n+1)*sz:=o_
         rw[← KR] at g2;have g3:k<off+(n+1):=by
          rcases K7 k (off+(n+1)) with h | h
          ·exact h
          ·have:=KM sz h;omega
         have g4:off≤k:=by
          rcases K7 k off with h | h
          ·have:=KM sz (show k+1≤off from h);rw[KR] at this;omega
          ·exact h
         exact a5 ⟨g4,g3⟩
        rw[ae,Qs _ _ _ _ (by simp;omega),Ke e6,← af];exact v2 p u hu
   ·cases h1
  ·cases h1
 ·cases h1
end
end Go.Abs
namespace Go.Abs
open Go
section
variable {P:Program} {nt:Nat} {U:Nat→Prop} {F A I:Nat→Prop} {Γ:Gh} {sl:Sl} {hp:Hp} {a:Act} {w:World}
theorem Sim.takes (h:Sim nt F A I Γ U sl hp a w) {base:Nat} (hb:Xa U base) {dels:List Nat} {o1:Zk} {r:Ref} {w' : World} (ay:w.heap.size≤w'.heap.size) (a2:w'.os=w.os) (af:w'.tape=w.tape) (al:w'.output=w.output)
  (ae:∀ k,k<w.heap.size→w'.heap[k]?=w.heap[k]?∨(∃ id∈dels,∃ o,lkp hp id=some o∧Blk Γ w id o k)∧¬I k)
  (a3:YF (upd Γ base r) w' I F A base o1) {v:AV} {u:Value} {dst:Option Nat} (am:Rep (upd Γ base r) w' I v u) (an:QP nt dst=true)
  (ao:∀ b,Blk (upd Γ base r) w' base o1 b→w.heap.size≤b∨∃ id∈dels,∃ o,lkp hp id=some o∧Blk Γ w id o b) :
  Vi nt F A I Γ w (UE U base) (Zs sl dst v) (Zi (Z6 hp dels) [(base,o1)]) (a.put dst u) w':=by
 have aa:ZO I I w w':=⟨fun _ h=>h,fun b ah=>(ae b (h.bound b ah)).elim id fun hh=>absurd ah hh.2⟩
 have hk:Qa Γ (upd Γ base r):=Vt _ (h.names base hb.self);have hF:∀ k,k<w.heap.size→¬F k→w'.heap[k]?=w.heap[k]?:=fun k hk hf=>(ae k hk).elim id fun ⟨⟨id,_,o,hl,ab⟩,_⟩=>absurd (ZkU (h.objs id o hl) ab) hf;refine⟨I,upd Γ base r,hk,aa,fun _ h=>.inl h,⟨a2,af,al,ay,hF⟩,?_⟩;have ap:∀ i o,lkp (Zi (Z6 hp dels) [(base,o1)]) i=some o→(i=base∧o=o1)∨(i≠base∧i∉dels∧lkp hp i=some o):=by
  intro i o hi;simp only[Zi,Qg] at hi;split at hi
  ·rename_i e;cases hi;exact .inl ⟨e.symm,rfl⟩
  ·rename_i e;obtain⟨h1,h2⟩:=V4 _ _ _ _ hi;exact .inr ⟨fun e'=>e e'.symm,h2,h1⟩
 have ag:∀ i o b,i∉dels→lkp hp i=some o→Blk Γ w i o b→w'.heap[b]?=w.heap[b]?:=fun i o b hn hl ab=>
  (ae b (h.blk_lt hl ab)).elim id fun ⟨⟨id,aq,o',a4,ah⟩,_⟩=>absurd (h.inj i id o o' b hl a4 ab ah ▸ aq) hn
 have ai:∀ i o b,i≠base→i∉dels→lkp hp i=some o→Blk (upd Γ base r) w' i o b→Blk Γ w i o b:=fun i o b h1 h2 h3 h4=>
  h4.back (h.objs i o h3) (QI _ _ h1) fun g' a5=>ag i o g' h2 h3 a5
 refine h.next hk aa ?_ ?_ (fun b hI=>by have:=h.bound b hI;omega) ay (fun k az=>by rw[QI _ _ (fun e=>az (.inr o_))];exact h.names k (fun hu=>az (.inl hu))) am an
 ·intro i o hi;rcases ap i o hi with ⟨rfl,rfl⟩ | ⟨a6,ar,hm⟩
  ·exact a3
  ·exact(h.objs i o hm).mono hk aa fun b ab=>⟨ag i o b ar hm ab,fun h=>h⟩
 ·have ad:∀ j o' b,j∉dels→lkp hp j=some o'→Blk Γ w j o' b→Blk (upd Γ base r) w' base o1 b→False:=by
   intro j o' b hj hl ab hn;rcases ao b hn with h1 | ⟨id,aq,o,h1,h2⟩
   ·have:=h.blk_lt hl ab;omega
   ·exact hj (h.inj j id o' o b hl h1 ab h2 ▸ aq)
  intro i j o o' b hi hj au av;rcases ap i o hi with ⟨rfl,rfl⟩ | ⟨a0,aw,aj⟩<;>rcases ap j o' hj with ⟨rfl,rfl⟩ | ⟨a1,ax,ak⟩
  ·rfl
  ·exact(ad j o' b ax ak (ai j o' b a1 ax ak av) au).elim
  ·exact(ad i o b aw aj (ai i o b a0 aw aj au) av).elim
  ·exact h.inj i j o o' b aj ak (ai i o b a0 aw aj au) (ai j o' b a1 ax ak av)
theorem ZAc {ns:Nat} {v:Value} {d:D} (h:Zkw v=some d):Qq w ns [] d v:=by
 unfold Zkw at h;split at h<;>cases h
 ·simp[Qq]
 ·simp[Qq]
 ·simp only[Qq];exact⟨⟨_,rfl,rfl⟩,trivial⟩
 ·simp only[Qq];exact⟨none,0,rfl,Kp _,.inl ⟨rfl,trivial⟩⟩
theorem Ztd {ns:Nat}:∀ {vs:List Value} {ds:List D},QF Zkw vs=some ds→Qd w ns [] ds vs
 | [],ds,h=>by simp only[QF] at h;cases h;simp[Qd]
 | v :: vs,ds,h=>by
  simp only[QF] at h;obtain⟨d,h1,h⟩:=Za h;obtain⟨aa,h2,h⟩:=Za h;cases h;simp only[Qd];exact⟨v,vs,[],[],rfl,rfl,ZAc h1,Ztd h2⟩
theorem ZCT {ns:Nat} {v:Value} {d:D} (h:evD v=some d) (ha:d.isAgg=true):Xn w ns [] d v.cells.toList:=by
 unfold evD at h;split at h
 ·obtain⟨ds,h1,h⟩:=Za h;cases h;simp only[Xn,Value.cells];exact Ztd h1
 ·unfold Zkw at h;split at h<;>cases h<;>cases ha
theorem Zg6 {g sz ns:Nat} {d:D} {c:List Value} (hl:c.length=sz) (hd:Xn w ns [] d c):∀ (n o:Nat),Qv w g o (List.replicate n c).flatten→ZY w ns [] g sz (List.replicate n d) o
 | 0,o,_=>by simp[ZY]
 | n+1,o,h=>by
  simp only[LU,Lc] at h;simp only[LU,ZY];refine⟨c,[],[],rfl,hl,fun j u hu=>h j u ?_,hd,Zg6 hl hd n (o+sz) fun j u hu=>?_⟩
  ·rw[KI (Kc.1 hu).1];exact hu
  ·have:=h (c.length+j) u (by rw[KF o_,Lr];exact hu);rw[← KS,hl] at this;exact this
theorem ZBw (h:Sim nt F A I Γ U sl hp a w) {o:Oper} {t e:TypeId} {l c:Operand} {l' c' : Opd} {z:Value} {d:D} (ho:o.op=.makeSlice t l c) (he:X4 P t=some e) (hl:ZW l=some l') (hc:ZW c=some c')
  (hz:Zan P e=some z) (am:evD z=some d) (an:WC P e=true) {base ns:Nat} (hb:Xa U base) (hd:QP nt o.dst=true) {ce:Ze} {n m:Int} (hn:idx (evO sl l')=some n) (hm:idx (evO sl c')=some m)
  (hv:makeT base (P.cellsOf e) (P.bytesOf e) ns d n m=some ce):Zdz P nt F A I Γ U sl hp a w o base ce:=by
 obtain⟨i,z',hi,ai,aj,ag,ab,ad⟩:=YX an;obtain⟨i',ak,ae⟩:=ZeN hz;rw[hi] at ak;cases ak;rw[ai] at ae;cases ae;obtain⟨k1,e1⟩:=VF hn (h.slOK.ev hl);obtain⟨k2,e2⟩:=VF hm (h.slOK.ev hc);unfold makeT at hv;split at hv
 ·rename_i af;obtain⟨c1,c2,c3,c4,c5,c6⟩:=af;cases hv;rw[ab] at c5 ⊢;rw[ad] at c3;have hr:=run_make (P:=P) w t e i z (QV he) hi ai k1 k2 n m c1 c2 (by have h2:=c3;rw[Int.mul_comm] at h2;simp only[ZL] at h2;omega) (by simp only[ZL] at c4;omega);refine⟨.slice (some ⟨w.heap.size,0,none⟩) n.toNat m.toNat,w.alloc (.cells (madeCells z.cells (m.toNat*i.size)) e),.inl (by simp[execOp,ho,e1,e2,hr]),?_⟩;rw[Xj];have al : (w.alloc (.cells (madeCells z.cells (m.toNat*i.size)) e)).heap[w.heap.size]?=some (.cells (madeCells z.cells (m.toNat*i.size)) e (0,0)):=heap_alloc_new w _;have hT:ZY (w.alloc (.cells (madeCells z.cells (m.toNat*i.size)) e)) ns [] w.heap.size i.size (List.replicate n.toNat d) 0:=by
   refine Zg6 (by simp[aj]) (ZCT am c6) n.toNat 0 (Vj al (ys:=(List.replicate (m.toNat-n.toNat) z.cells.toList).flatten) ?_);rw[← aj,JN,← Lv,List.replicate_append_replicate];congr 2
   omega
  have ao:F w.heap.size:=h.fresh _ (Kp _);have ap:¬I w.heap.size:=fun hi=>absurd (h.bound _ hi) o_;refine h.takes hb (w':=w.alloc (.cells (madeCells z.cells (m.toNat*i.size)) e)) (dels:=[]) (r:=.row (some ⟨w.heap.size,0,none⟩) n.toNat m.toNat i.size) (by simp) rfl rfl rfl (fun k hk=>.inl (X8 w _ k hk)) ?_ ⟨_,_,_,_,ZJ _ _ _,rfl⟩ hd fun b aa=>?_
  ·refine⟨_,n.toNat,m.toNat,ZJ _ _ _,⟨by simp,?_⟩,trivial⟩;rcases Ly m.toNat with ah | ah
   ·exact .inl ⟨o_,ah,rfl⟩
   ·exact .inr ⟨_,_,e,[],rfl,ah,al,o_,by simp only[ZL] at c4;simp only[maxLen];omega,size_madeCells _ _,ag,hT,by simp,fun b hb=>by simp at hb;subst hb;exact⟨ap,ao⟩⟩
  ·rcases aa with aa | ⟨g,B,hg,hB,aa⟩ | aa
   ·rw[JE,ZJ] at aa;simp only[Zz] at aa;split at aa
    ·cases aa
    ·cases aa;exact .inl (Kp _)
   ·rw[ZJ] at hg;simp only[Zz] at hg;split at hg
    ·cases hg
    ·cases hg;cases ZY.uniq hT hB;simp at aa
   ·exact aa.elim
 ·cases hv
theorem ZBx {ns:Nat} {B:List Nat} {d:D} {v:Value} (h:Qq w ns B d v):v.oneCell'=true:=by
 cases d with
 | sl ys=>simp only[Qq] at h;obtain⟨a,c,rfl,_⟩:=h;rfl
 | agg cs=>simp only[Qq] at h
 | int k n=>simp only[Qq] at h;rw[h.1];rfl
 | bool b=>simp only[Qq] at h;rw[h.1];rfl
 | str s=>simp only[Qq] at h;obtain⟨⟨t,rfl,_⟩,_⟩:=h;rfl
theorem Zv4 {ns:Nat}:∀ {ds:List D} {B:List Nat} {vs:List Value},Qd w ns B ds vs→∀ v∈vs,v.oneCell'=true
 | [],_,_,h,v,hv=>by simp only[Qd] at h;rw[h.1] at hv;simp at hv
 | d :: ds,_,_,h,v,hv=>by
  simp only[Qd] at h;obtain⟨u,r,B1,B2,rfl,rfl,h2,h3⟩:=h;rcases Kd.1 hv with rfl | hv
  ·exact ZBx h2
  ·exact Zv4 h3 v hv
theorem Zqw {ns g sz:Nat}:∀ {xs:List D} {B:List Nat} {o:Nat},ZY w ns B g sz xs o→∃ os:List Value,os.length=xs.length*sz∧Qv w g o os∧(∀ v∈os,v.oneCell'=true) ∧
  ∀ (w' : World) (g' o' : Nat),(∀ b∈B,w'.heap[b]?=w.heap[b]?)→Qv w' g' o' os→ZY w' ns B g' sz xs o'
 | [],B,o,h=>⟨[],by simp,fun j u hu=>by simp at hu,fun v hv=>by simp at hv,fun w' g' o' _ _=>by simpa only[ZY] using h⟩
 | d :: ds,B,o,h=>by
  simp only[ZY] at h;obtain⟨vs,B1,B2,rfl,h1,h2,h3,h4⟩:=h;obtain⟨os,k1,k2,k3,k4⟩:=Zqw h4;refine⟨vs++os,by simp only[Kr,Kn,h1,k1,KR];omega,fun j u hu=>?_,fun v hv=>?_,fun w' g' o' hk aa=>?_⟩
  ·rw[Kam] at hu;split at hu
   ·exact h2 j u hu
   ·have:=k2 _ u hu;have e:o+sz+(j-vs.length)=o+j:=o_
    rwa [e] at this
  ·rcases Kh.1 hv with hv | hv
   ·exact Zv4 h3.cells v hv
   ·exact k3 v hv
  ·simp only[ZY];refine⟨vs,B1,B2,rfl,h1,fun j u hu=>aa j u ?_,h3.mono fun b hb=>hk b (by simp[hb]),k4 w' g' (o'+sz) (fun b hb=>hk b (by simp[hb])) fun j u hu=>?_⟩
   ·rw[KI (Kc.1 hu).1];exact hu
   ·have:=aa (vs.length+j) u (by rw[KF o_,Lr];exact hu)
    rwa [← KS,h1] at this
theorem ZjS (h:Sim nt F A I Γ U sl hp a w) {ns s:Nat}:∀ {vs:List AV} {us:List Value} {q:List D×List Nat},Zy (Rep Γ w I) vs us→Y7 hp ns s vs=some q →
  ∃ B,B.Nodup∧(∀ b∈B,¬I b∧F b)∧(∀ b∈B,∃ id∈q.2,∃ o,lkp hp id=some o∧Blk Γ w id o b)∧(∀ u∈us,u.cells.size=s)∧q.1.length=us.length ∧
   ∀ (w' : World) (g o:Nat),(∀ b∈B,w'.heap[b]?=w.heap[b]?)→Qv w' g o (us.map fun u=>u.cells.toList).flatten→ZY w' ns B g s q.1 o
 | [],[],q,_,hq=>by
  simp only[Y7] at hq;cases hq;exact⟨[],Lw,fun b hb=>by simp at hb,fun b hb=>by simp at hb,fun u hu=>by simp at hu,rfl,fun w' g o _ _=>by simp[ZY]⟩
 | [],_ :: _,_,h,_=>h.elim
 | _ :: _,[],_,h,_=>h.elim
 | x :: vs,u :: us,q,hr,hq=>by
  cases x with
  | agg cs=>
   simp only[Y7] at hq;obtain⟨q1,h1,hq⟩:=Za hq;obtain⟨q2,h2,hq⟩:=Za hq;split at hq
   ·rename_i hc;obtain⟨hl,hc⟩:=hc;cases hq;obtain⟨ws,rfl,ah⟩:=hr.1;obtain⟨B1,j1,j2,j3,j4⟩:=Zk0 h ah h1;obtain⟨B2,k1,k2,k3,k4,k5,k6⟩:=ZjS h hr.2 h2;have ab:ws.size=s:=by have:=j1.length;simp at this;omega
    refine⟨B1++B2,LQ.2 ⟨j2,k1,fun b hb b' ai e=>?_⟩,fun b hb=>?_,fun b hb=>?_,fun u hu=>?_,by simp[k5],fun w' g o hk ad=>?_⟩
    ·subst e;obtain⟨id,aa,o,hl,aj⟩:=j4 b hb;obtain⟨ak,ae,o',al,af⟩:=k3 b ai;have:=h.inj id ak o o' b hl al aj af;subst this;simp only[K0] at hc;have:(q1.2.any q2.2.contains)=true:=LM.2 ⟨id,aa,by simpa using ae⟩;rw[this] at hc;cases hc
    ·rcases Kh.1 hb with hb | hb
     ·exact j3 b hb
     ·exact k2 b hb
    ·rcases Kh.1 hb with hb | hb
     ·obtain⟨id,aa,hh⟩:=j4 b hb;exact⟨id,by simp[aa],hh⟩
     ·obtain⟨id,aa,hh⟩:=k3 b hb;exact⟨id,by simp[aa],hh⟩
    ·rcases Kd.1 hu with rfl | hu
     ·exact ab
     ·exact k4 u hu
    ·simp only[Kk,Lc,Value.cells] at ad;simp only[ZY];refine⟨ws.toList,B1,B2,rfl,by simpa using ab,fun j u hu=>ad j u ?_,ZpG (j1.mono fun b hb=>hk b (by simp[hb])),k6 w' g (o+s) (fun b hb=>hk b (by simp[hb])) fun j u hu=>?_⟩
     ·rw[KI (Kc.1 hu).1];exact hu
     ·have:=ad (ws.toList.length+j) u (by rw[KF o_,Lr];exact hu)
      rwa [← KS,K5,ab] at this
   ·cases hq
  | own id0=>
   simp only[Y7] at hq;obtain⟨q1,h1,hq⟩:=Za hq;obtain⟨q2,h2,hq⟩:=Za hq;split at hq
   ·rename_i hc;obtain⟨hl,hc⟩:=hc;cases hq;have ah:Zy (Yw Γ w I) [.own id0] [u]:=⟨hr.1,trivial⟩
    have ag:u.cells.toList=[u]:=by obtain⟨_,_,_,_,_,rfl⟩:=hr.1;rfl
    obtain⟨B1,j1,j2,j3,j4⟩:=Zk0 h ah h1;obtain⟨B2,k1,k2,k3,k4,k5,k6⟩:=ZjS h hr.2 h2;have ab:u.cells.size=s:=by
     have:=j1.length;rw[← K5,ag];simp at this ⊢;omega
    refine⟨B1++B2,LQ.2 ⟨j2,k1,fun b hb b' ai e=>?_⟩,fun b hb=>?_,fun b hb=>?_,fun u' hu=>?_,by simp[k5],fun w' g o hk ad=>?_⟩
    ·subst e;obtain⟨id,aa,o,hl,aj⟩:=j4 b hb;obtain⟨ak,ae,o',al,af⟩:=k3 b ai;have:=h.inj id ak o o' b hl al aj af;subst this;simp only[K0] at hc;have:(q1.2.any q2.2.contains)=true:=LM.2 ⟨id,aa,by simpa using ae⟩;rw[this] at hc;cases hc
    ·rcases Kh.1 hb with hb | hb
     ·exact j3 b hb
     ·exact k2 b hb
    ·rcases Kh.1 hb with hb | hb
     ·obtain⟨id,aa,hh⟩:=j4 b hb;exact⟨id,by simp[aa],hh⟩
     ·obtain⟨id,aa,hh⟩:=k3 b hb;exact⟨id,by simp[aa],hh⟩
    ·rcases Kd.1 hu with rfl | hu
     ·exact ab
     ·exact k4 u' hu
    ·simp only[Kk,Lc,ag] at ad;simp only[ZY];refine⟨[u],B1,B2,rfl,by rw[← ag,K5];exact ab,fun j u' hu=>ad j u' ?_,ZpG (j1.mono fun b hb=>hk b (by simp[hb])),k6 w' g (o+s) (fun b hb=>hk b (by simp[hb])) fun j u' hu=>?_⟩
     ·rw[KI (Kc.1 hu).1];exact hu
     ·have:=ad ([u].length+j) u' (by rw[KF o_,Lr];exact hu)
      rwa [← KS,show [u].length=s by rw[← ag,K5];exact ab] at this
   ·cases hq
  | _=>simp[Y7] at hq
theorem Sim.newTree (h:Sim nt F A I Γ U sl hp a w) {base:Nat} (hb:Xa U base) {dels:List Nat} {w' : World} {g n c sz ns:Nat} {xs:List D} {B:List Nat} {cur:Array Value} {e:TypeId} (al:w.heap.size≤w'.heap.size) (am:w'.os=w.os) (ab:w'.tape=w.tape) (af:w'.output=w.output)
  (ag:∀ k,k<w.heap.size→k≠g→w'.heap[k]?=w.heap[k]?) (ad:w.heap.size≤g∨∃ id∈dels,∃ o,lkp hp id=some o∧Blk Γ w id o g) (ak:¬I g) (an:F g)
  (hn:n=xs.length) (hc:0<c) (ae:w'.heap[g]?=some (.cells cur e (0,0))) (ao:n≤c) (ap:c≤maxLen) (aq:cur.size=c*sz) (ah:0<sz) (hT:ZY w' ns B g sz xs 0) (ar:(g :: B).Nodup)
  (hB:∀ b∈B,¬I b∧F b) (au:∀ b∈B,∃ id∈dels,∃ o,lkp hp id=some o∧Blk Γ w id o b) {dst:Option Nat} (hd:QP nt dst=true) :
  Vi nt F A I Γ w (UE U base) (Zs sl dst (.own base)) (Zi (Z6 hp dels) [(base,.tree sz ns xs none)]) (a.put dst (.slice (some ⟨g,0,none⟩) n c)) w':=by
 have ai:∀ k,k<w.heap.size→w'.heap[k]?=w.heap[k]?∨(∃ id∈dels,∃ o,lkp hp id=some o∧Blk Γ w id o k)∧¬I k:=by
  intro k hk;by_cases e:k=g
  ·subst e;rcases ad with ad | ad
   ·omega
   ·exact .inr ⟨ad,ak⟩
  ·exact .inl (ag k hk e)
 refine h.takes hb (r:=.row (some ⟨g,0,none⟩) n c sz) al am ab af ai ?_ ⟨_,_,_,_,ZJ _ _ _,rfl⟩ hd ?_
 ·refine⟨_,_,_,ZJ _ _ _,⟨hn,.inr ⟨g,cur,e,B,rfl,hc,ae,ao,ap,aq,ah,hT,ar,fun b hb=>?_⟩⟩,trivial⟩;rcases Kd.1 hb with rfl | hb
  ·exact⟨ak,an⟩
  ·exact hB b hb
 ·intro b aa;rcases aa with aa | ⟨g',B',aj,av,aa⟩ | aa
  ·rw[JE,ZJ] at aa;simp[Zz,KE hc] at aa;subst aa;exact ad
  ·rw[ZJ] at aj;simp[Zz,KE hc] at aj;subst aj;cases ZY.uniq hT av;exact .inr (au b aa)
  ·exact aa.elim
theorem ZAd (h:Sim nt F A I Γ U sl hp a w) {o:Oper} {t e:TypeId} {n ns:Nat} {ps:Array (Nat×Operand)} {ys:List Opd} (ho:o.op=.buildSlice t n ps) (he:X4 P t=some e)
  (am:QF (fun q:Nat×Operand=>ZW q.2) ps.toList=some ys) (ah:ps.toList.map (·.1)=List.range n) (ab:n*P.cellsOf e≤16777216) (ai:WC P e=true) {base:Nat} (hb:Xa U base) (hd:QP nt o.dst=true)
  {ce:Ze} (hv:buildT hp base (P.cellsOf e) ns (evL sl ys)=some ce):Zdz P nt F A I Γ U sl hp a w o base ce:=by
 obtain⟨i,z,hi,hz,ap,af,aa,ag⟩:=YX ai;have hr:∀ {ps:List (Nat×Operand)} {ys:List Opd},QF (fun q:Nat×Operand=>ZW q.2) ps=some ys→Zy (Rep Γ w I) (evL sl ys) (ps.map fun x=>a.eval x.2):=by
  intro ps
  induction ps with
  | nil=>intro ys hy;simp only[QF] at hy;cases hy;exact trivial
  | cons p ps ih=>
   intro ys hy;simp only[QF] at hy;obtain⟨y,h1,hy⟩:=Za hy;obtain⟨aq,h2,hy⟩:=Za hy;cases hy;exact⟨h.slOK.ev h1,ih h2⟩
 have ad:=hr am;have hn:n=ps.toList.length:=by have:=congrArg List.length ah;simpa using this.symm
 unfold buildT at hv;split at hv
 ·rename_i aj;obtain⟨q,h1,hv⟩:=Za hv;cases hv;obtain⟨B,k1,k2,k3,k4,k5,k6⟩:=ZjS h ad h1;obtain⟨cells,h2,h3,h4⟩:=ZnO (w:=w) (a:=a) ho he ah ab ai k4;have an:0<n:=by
   have:=ad.length;simp only[KB] at this;rw[← hn] at this;rcases Ly n with h0 | h0
   ·rw[h0] at this;rw[Ks this] at aj;cases aj
   ·exact h0
  refine⟨_,_,.inl h2,?_⟩;rw[Xj];have ak : (w.alloc (.cells cells e)).heap[w.heap.size]?=some (.cells cells e (0,0)):=heap_alloc_new w _;have ae:∀ k,k<w.heap.size→(w.alloc (.cells cells e)).heap[k]?=w.heap[k]?:=fun k hk=>X8 w _ k hk;have al:∀ b∈B,b<w.heap.size:=fun b hb=>by
   obtain⟨id,_,o,hl,ao⟩:=k3 b hb;exact h.blk_lt hl ao
  refine h.newTree hb (w':=w.alloc (.cells cells e)) (by simp) rfl rfl rfl (fun k hk _=>ae k hk) (.inl (Kp _)) (fun hi=>absurd (h.bound _ hi) o_) (h.fresh _ (Kp _)) (by rw[k5,hn,KB]) an ak (Kp _)
   (by rw[aa] at ab;have:=Nat.le_mul_of_pos_right n af;simp only[maxLen];omega) h3 o_ (k6 _ _ 0 (fun b hb=>ae b (al b hb)) fun j u hu=>?_) (Lj.2 ⟨fun hm=>absurd (al _ hm) o_,k1⟩) k2 k3 hd
  rw[cell_of_row _ _ _ _ _ _ ak];simpa using h4 j u hu
 ·cases hv
theorem ZCU (h:Sim nt F A I Γ U sl hp a w) {o:Oper} {x:Operand} {y:Opd} {s n:Nat} (ho:o.op=.assign x) (hc:ZW x=some y) {base:Nat} (hb:Xa U base) (hd:QP nt o.dst=true) {ce:Ze}
  (hv:asgT base s n (evO sl y)=some ce):Zdz P nt F A I Γ U sl hp a w o base ce:=by
 unfold asgT at hv;split at hv
 ·rename_i hy;cases hv;have h1:=h.slOK.ev hc;rw[hy] at h1;obtain⟨ad,h2⟩:=h1;refine⟨a.eval x,w,.inl (by simp[execOp,ho]),?_⟩;rw[Xj,h2];refine h.takes hb (w':=w) (dels:=[]) (r:=.row ad 0 0 s) (Kp _) rfl rfl rfl (fun k _=>.inl rfl) ?_ ⟨_,_,_,_,ZJ _ _ _,rfl⟩ hd fun b aa=>?_
  ·exact⟨_,_,_,ZJ _ _ _,⟨rfl,.inl ⟨rfl,rfl,rfl⟩⟩,trivial⟩
  ·exact(aa.nil (by rw[ZJ];cases ad<;>simp[Zz])).elim
 ·cases hv
end
end Go.Abs
namespace Go.Abs
open Go
section
variable {P:Program} {nt:Nat} {U:Nat→Prop} {F A I:Nat→Prop} {Γ:Gh} {sl:Sl} {hp:Hp} {a:Act} {w:World}
structure Part (Γ:Gh) (w:World) (I F:Nat→Prop) (hp:Hp) (ids:List Nat) (ns sz:Nat) (xs:List D) (B:List Nat) (os:List Value) (ad:Option Addr) (n c:Nat):Prop where
 len:n=xs.length
 cells:os.length=xs.length*sz
 one:∀ v∈os,v.oneCell'=true
 at_:(n=0∧c=0)∨∃ g cur e,ad=some ⟨g,0,none⟩∧0<c∧w.heap[g]?=some (.cells cur e (0,0))∧n≤c∧c≤maxLen∧cur.size=c*sz∧0<sz∧¬I g∧F g∧Qv w g 0 os∧g∉B∧∃ id∈ids,∃ o,lkp hp id=some o∧Blk Γ w id o g
 tre:∀ (w' : World) (g' o' : Nat),(∀ b∈B,w'.heap[b]?=w.heap[b]?)→Qv w' g' o' os→ZY w' ns B g' sz xs o'
 nd:B.Nodup
 own:∀ b∈B,¬I b∧F b
 blk:∀ b∈B,∃ id∈ids,∃ o,lkp hp id=some o∧Blk Γ w id o b
theorem Zv5 {ids:List Nat} {ns sz:Nat} {ad:Option Addr}:Part Γ w I F hp ids ns sz [] [] [] ad 0 0:=
 ⟨rfl,by simp,fun v hv=>by simp at hv,.inl ⟨rfl,rfl⟩,fun w' g' o' _ _=>by simp[ZY],Lw,fun b hb=>by simp at hb,fun b hb=>by simp at hb⟩
theorem Zte (h:Sim nt F A I Γ U sl hp a w) {id sz ns:Nat} {xs:List D} (hl:lkp hp id=some (.tree sz ns xs none)) {ad:Option Addr} {n c:Nat} (hg:Γ id=some (.row ad n c sz)):∃ B os,Part Γ w I F hp [id] ns sz xs B os ad n c:=by
 obtain⟨ag,n',c',ae,⟨hn,h3⟩,_⟩:=h.objs id _ hl;rw[hg] at ae;cases ae;rcases h3 with ⟨h3,h4,_⟩ | ⟨g,cur,e,B,rfl,hc,hw,h4,h5,h6,aa,h8,h9,ab⟩
 ·subst h3 h4;have hx:xs=[]:=Ks hn.symm;subst hx;exact⟨[],[],Zv5⟩
 ·obtain⟨os,k1,k2,k3,k4⟩:=Zqw h8;have af:Zz (Γ id)=some g:=by rw[hg];simp[Zz,KE hc]
  obtain⟨n1,n2⟩:=Lj.1 h9;exact⟨B,os,hn,k1,k3,.inr ⟨g,cur,e,rfl,hc,hw,h4,h5,h6,aa,(ab g (by simp)).1,(ab g (by simp)).2,k2,n1,id,by simp,_,hl,.inl af⟩,k4,n2,fun b hb=>ab b (by simp[hb]),fun b hb=>⟨id,by simp,_,hl,.inr (.inl ⟨g,B,af,h8,hb⟩)⟩⟩
theorem ZBy {ids:List Nat} {ns sz:Nat} {xs:List D} {B:List Nat} {os:List Value} {ad:Option Addr} {n c:Nat} (hp' : Part Γ w I F hp ids ns sz xs B os ad n c) {u e:TypeId} (hu:P.underlying u=some (.slice e)):Src P w u sz (.slice ad n c) xs.length os:=by
 have hn:=hp'.len;have aa:n=0∨∃ b o,ad=some ⟨b,o,none⟩∧Qv w b o os:=by
  rcases hp'.at_ with h | ⟨g,_,_,h,_,_,_,_,_,_,_,_,h2,_⟩
  ·exact .inl h.1
  ·exact .inr ⟨g,0,h,h2⟩
 subst hn;exact⟨⟨_,hu,fun k=>by simp⟩,by simp[Builtin.lenOf],YN hp'.cells aa,YN hp'.cells (aa.imp id fun ⟨b,o,h1,h2⟩=>⟨b,o,h1,h2.drew⟩),hp'.one,hp'.cells⟩
theorem Ztf (h:Sim nt F A I Γ U sl hp a w) {base:Nat} (hb:Xa U base) {t u ty e:TypeId} {i:TypeInfo} {z:Value} (ht:P.underlying t=some (.slice e)) (hi:P.info? e=some i) (hz:i.zero=some z) (bc:z.cells.size=i.size) (aw:0<i.size)
  {dst:Option Nat} (hd:QP nt dst=true) (hu:P.underlying u=some (.slice e)) {aa ae:List Nat} {ns:Nat} {xs ys:List D} {B1 B2:List Nat} {os cs:List Value} {ad a6:Option Addr} {n c n2 c2:Nat}
  (hx:Part Γ w I F hp aa ns i.size xs B1 os ad n c) (hy:Part Γ w I F hp ae ns i.size ys B2 cs a6 n2 c2) (ax:∀ k∈aa,k∉ae)
  (h1:(n+ys.length)*i.bytes≤ZL) (h2:n+ys.length≤ZL) :
  ∃ v' w',(Builtin.append_ #[t,u] ty #[.slice ad n c,.slice a6 n2 c2]).run P w=.ok v' w'∧Vi nt F A I Γ w (UE U base) (Zs sl dst (.own base)) (Zi (Z6 hp (aa++ae)) [(base,.tree i.size ns (xs++ys) none)]) (a.put dst v') w':=by
 simp only[ZL] at h1 h2;have hs:=ZBy (P:=P) hy hu;have aj:=hx.cells;have a7:=hy.cells;have hn:=hx.len;have ag:∀ (k k' : Nat) (o o' : Zk) (b:Nat),k∈aa→k'∈ae→lkp hp k=some o→lkp hp k'=some o'→Blk Γ w k o b→Blk Γ w k' o' b→False:=fun k k' o o' b hk ak hl al hb am=>ax k hk (h.inj k k' o o' b hl al hb am ▸ ak);have an:∀ b∈B1++B2,∃ id∈aa++ae,∃ o,lkp hp id=some o∧Blk Γ w id o b:=by
  intro b hb;rcases Kh.1 hb with hb | hb
  ·obtain⟨k,hk,hh⟩:=hx.blk b hb;exact⟨k,by simp[hk],hh⟩
  ·obtain⟨k,hk,hh⟩:=hy.blk b hb;exact⟨k,by simp[hk],hh⟩
 have a8:∀ b∈B1++B2,b<w.heap.size:=fun b hb=>by
  obtain⟨k,_,o,hl,ay⟩:=an b hb;exact h.blk_lt hl ay
 have bd:(B1++B2).Nodup:=LQ.2 ⟨hx.nd,hy.nd,fun b hb b' am e=>by
  subst e;obtain⟨k,hk,o,hl,ay⟩:=hx.blk b hb;obtain⟨k',ak,o',al,ah⟩:=hy.blk b am;exact ag k k' o o' b hk ak hl al ay ah⟩
 have az:∀ b∈B1++B2,¬I b∧F b:=fun b hb=>(Kh.1 hb).elim (hx.own b) (hy.own b);have a9:∀ (w' : World) (g c' : Nat) (cur:Array Value) (e' : TypeId),w.heap.size≤w'.heap.size→w'.os=w.os→w'.tape=w.tape→w'.output=w.output →
   (∀ k,k<w.heap.size→k≠g→w'.heap[k]?=w.heap[k]?)→(w.heap.size≤g∨(g∉B1∧∃ id∈aa,∃ o,lkp hp id=some o∧Blk Γ w id o g))→¬I g→F g →
   w'.heap[g]?=some (.cells cur e' (0,0))→0<c'→n+ys.length≤c'→c'≤maxLen→cur.size=c' * i.size→Qv w' g 0 (os++cs) →
   Vi nt F A I Γ w (UE U base) (Zs sl dst (.own base)) (Zi (Z6 hp (aa++ae)) [(base,.tree i.size ns (xs++ys) none)]) (a.put dst (.slice (some ⟨g,0,none⟩) (n+ys.length) c')) w':=by
  intro w' g c' cur e' be bf ao a0 ap a1 a2 a3 ab a4 a' aq a5 ai;have ar:g∉B1++B2:=by
   intro hm;rcases a1 with a1 | ⟨bg,k,hk,o,hl,bh⟩
   ·have:=a8 g hm;omega
   ·rcases Kh.1 hm with hm | hm
    ·exact bg hm
    ·obtain⟨k',ak,o',al,ah⟩:=hy.blk g hm;exact ag k k' o o' g hk ak hl al bh ah
  have same:∀ b∈B1++B2,w'.heap[b]?=w.heap[b]?:=fun b hb=>ap b (a8 b hb) fun e=>ar (e ▸ hb);have hT:ZY w' ns (B1++B2) g i.size (xs++ys) 0:=by
   refine ZY.append (hx.tre w' g 0 (fun b hb=>same b (by simp[hb])) fun j u hu=>ai j u ?_) (hy.tre w' g _ (fun b hb=>same b (by simp[hb])) fun j u hu=>?_)
   ·rw[KI (Kc.1 hu).1];exact hu
   ·have:=ai (os.length+j) u (by rw[KF o_,Lr];exact hu)
    rwa [← KS,aj] at this
  refine h.newTree hb be bf ao a0 ap (a1.imp id fun ⟨_,k,hk,hh⟩=>⟨k,by simp[hk],hh⟩) a2 a3 (by simp[hn]) a4 ab a' aq a5 aw hT (Lj.2 ⟨ar,bd⟩) az an hd
 by_cases af:n+ys.length≤c
 ·rcases hx.at_ with ⟨e1,e2⟩ | ⟨g,cur,e',rfl,a4,hw,a',aq,a5,_,a2,a3,ai,bi,au⟩
  ·subst e1 e2;have bj:ys=[]:=Ks o_;have bk:xs=[]:=Ks o_;subst bj bk;refine⟨_,_,ZnK ht hi hs (Kp 0),?_⟩;refine h.takes hb (w':=w) (r:=.row ad 0 0 i.size) (Kp _) rfl rfl rfl (fun k _=>.inl rfl) ?_ ⟨_,_,_,_,ZJ _ _ _,rfl⟩ hd fun b am=>?_
   ·exact⟨_,_,_,ZJ _ _ _,⟨rfl,.inl ⟨rfl,rfl,rfl⟩⟩,trivial⟩
   exact(am.nil (by rw[ZJ];cases ad<;>simp[Zz])).elim
  ·have bl:n*i.size+cs.length≤cur.size:=by rw[a7,a5,← KR];exact KM _ af
   have hr:=Zc1 (q:=0) (ty:=ty) ht hi hs hw af o_;rw[K8] at hr;refine⟨_,_,hr,?_⟩;have ab:=setRow_heap w g cur (cur.toList.take (n*i.size)++cs++cur.toList.drop (n*i.size+cs.length)).toArray e' _ hw;refine a9 _ g c _ e' (by rw[size_setRow];exact Kp _) rfl rfl rfl (fun k _ bm=>setRow_other w g k _ bm) (.inr ⟨bi,au⟩) a2 a3 ab a4 af aq ?_ ?_
   ·simp only[L5,Kr,LB,LV,K5];omega
   ·have av:cur.toList.take (n*i.size)=os:=by
     refine LD fun j=>?_;rw[Lp];split
     ·rename_i hj;obtain⟨u',ba⟩:∃ u',os[j]?=some u':=⟨_,KK (by rw[aj,← hn];exact hj)⟩
      have:=ai j u' ba;rw[cell_of_row w g _ cur e' _ hw] at this;rw[ba];simpa using this
     ·rw[KZ (by rw[aj,← hn];omega)]
    refine Vj ab (ys:=cur.toList.drop (n*i.size+cs.length)) ?_;rw[av]
 ·have ai:n=0∨∃ b o,ad=some ⟨b,o,none⟩∧Qv w b o os:=by
   rcases hx.at_ with h' | ⟨g,_,_,h',_,_,_,_,_,_,_,_,h2,_⟩
   ·exact .inl h'.1
   ·exact .inr ⟨g,0,h',h2⟩
  have ho:=YN (P:=P) (w:=w.drew) (c:=c) (by rw[aj,hn]) (ai.imp id fun ⟨b,o,h1,h2⟩=>⟨b,o,h1,h2.drew⟩);have hr:=ZnL (ty:=ty) ht hi hz hs ho o_ o_ (growslice_fits o_ h1);refine⟨_,_,hr,?_⟩;have bn:=grownCap_ge w (n+ys.length) c e;have aq:grownCap w (n+ys.length) c e≤maxLen:=grownCap_le_maxLen w (n+ys.length) c e (by simp only[maxLen];omega);have bb : (w.drew.alloc (.cells ((os++cs).toArray++Builtin.zeroCells z.cells (grownCap w (n+ys.length) c e-(n+ys.length))) e)).heap[w.heap.size]? =
    some (.cells ((os++cs).toArray++Builtin.zeroCells z.cells (grownCap w (n+ys.length) c e-(n+ys.length))) e (0,0)):=heap_alloc_new w.drew _
  refine a9 _ w.heap.size _ _ e (by simp) rfl rfl rfl (fun k hk _=>heap_alloc_old w.drew _ k hk) (.inl (Kp _)) (fun hi=>absurd (h.bound _ hi) o_) (h.fresh _ (Kp _)) bb o_ bn aq ?_ ?_
  ·simp only[Array.size_append,L5,Kr,size_zeroCells,bc,aj,a7,← hn,← KR];congr 1
   omega
  ·refine Vj bb (ys:=(Builtin.zeroCells z.cells (grownCap w (n+ys.length) c e-(n+ys.length))).toList) ?_;simp
theorem ZxO {l:Hp} {t t' : Nat} (h:t≠t'):lkp (del l t) t'=lkp l t':=by rw[Zfc,Ke h]
theorem WK:∀ (ds:List Nat) (l:Hp) (id:Nat),id∉ds→lkp (Z6 l ds) id=lkp l id
 | [],l,id,_=>rfl
 | d :: ds,l,id,h=>by
  simp only[Kd,not_or] at h;simp only[Z6];rw[WK ds _ id h.2,ZxO (fun e=>h.1 e.symm)]
def isOut:Zk→Bool
 | .tree _ _ _ (some _)=>true
 | _=>false
def ZyV (Γ:Gh) (w:World) (hp:Hp) (I:Nat→Prop) (ids:List Nat) (b:Nat):Prop:=I b∨∃ id∈ids,∃ o,lkp hp id=some o∧isOut o=false∧Zf7 Γ w id o b
theorem Ui (hp:Hp):∀ (ids:List Nat) (k:Nat),lkp (meltIn hp ids) k=(lkp hp k).map fun o=>if ids.contains k then ZkG o else o
 | [],k=>by simp[meltIn]
 | i :: r,k=>by
  simp only[meltIn];have ih:=Ui hp r k;by_cases e:i=k
  ·subst e;cases hl:lkp hp i with
   | none=>simp only[ih,hl];rfl
   | some o=>simp only[Qg,Kl,K4];simp
  ·have hc:(i :: r).contains k=r.contains k:=by simp;intro h;exact absurd h.symm e
   rw[hc,← ih];cases lkp hp i with
   | none=>rfl
   | some o=>simp only[Qg];rw[Ke e]
theorem Sim.meltIn (h:Sim nt F A I Γ U sl hp a w) (ids:List Nat):Sim nt F A (ZyV Γ w hp I ids) Γ U sl (meltIn hp ids) a w:=by
 have aa:ZO I (ZyV Γ w hp I ids) w w:=⟨fun _ h=>.inl h,fun _ _=>rfl⟩
 have ae:∀ k o,lkp (Go.Abs.meltIn hp ids) k=some o→∃ o0,lkp hp k=some o0∧o=if ids.contains k then ZkG o0 else o0:=by
  intro k o hk;rw[Ui] at hk;cases hl:lkp hp k with
  | none=>rw[hl] at hk;cases hk
  | some o0=>rw[hl] at hk;simp only[K4,Option.some.injEq] at hk;exact⟨o0,rfl,hk.symm⟩
 have bk:∀ k o0 b,Blk Γ w k (if ids.contains k then ZkG o0 else o0) b→Blk Γ w k o0 b:=by
  intro k o0 b hb;split at hb
  ·cases o0 with
   | box cs=>exact hb
   | row sz xs ex fz=>exact hb
   | gone=>exact hb
   | tree sz ns xs lk=>
    cases lk with
    | none=>exact .inl hb.row
    | some q=>exact hb
  ·exact hb
 refine { nt:=h.nt,dfr:=h.dfr,slots:=fun t=>(h.slots t).mono (Qa.refl Γ) aa,objs:=?_,inj:=?_,bound:=?_,fresh:=h.fresh,own:=h.own,names:=h.names,glob:=h.glob.mono aa }
 ·intro k o hk;obtain⟨o0,hl,rfl⟩:=ae k o hk;have ho:=h.objs k o0 hl;have plain:(∀ b,Zf7 Γ w k o0 b→k∉ids)→YF Γ w (ZyV Γ w hp I ids) F A k o0:=fun hn=>ho.mono (Qa.refl Γ) aa fun b hb=>⟨rfl,fun hi=>by
   rcases hi with hi | ⟨id,aj,o',ab,_,hi⟩
   ·exact hi
   ·have:=h.inj k id o0 o' b hl ab hb (.inr (.inl hi));subst this;rw[hl] at ab;cases ab;exact absurd aj (hn b hi)⟩
  split
  ·rename_i af;have ag : k∈ids:=by simpa using af
   cases o0 with
   | box cs=>exact plain fun b hb=>False.elim hb
   | row sz xs ex fz=>exact plain fun b hb=>False.elim hb
   | gone=>exact ho
   | tree sz ns xs lk=>
    cases lk with
    | some q=>
     refine ho.mono (Qa.refl Γ) aa fun b hb=>⟨rfl,fun hi=>?_⟩
     rcases hi with hi | ⟨id,aj,o',ab,am,hi⟩
     ·exact hi
     ·have:=h.inj k id _ o' b hl ab hb (.inr (.inl hi));subst this;rw[hl] at ab;cases ab;cases am
    | none=>
    obtain⟨ad,n,c,h1,⟨h2,h3⟩,_⟩:=ho;refine⟨ad,n,c,h1,h2,?_⟩;rcases h3 with h3 | ⟨g,cur,e,B,rfl,hc,hw,h4,h5,h6,ah,h8,h9,ak⟩
    ·exact .inl ⟨h3.1,h3.2.1⟩
    ·have ai:Zz (Γ k)=some g:=by rw[h1];simp[Zz,KE hc]
     refine .inr ⟨g,0,cur,e,rfl,hc,hw,h4,h5,⟨o_,fun _=>rfl⟩,ah,?_,(ak g (by simp)).2,?_⟩
     ·simp only[Ka,Km]
      rintro (hi | ⟨id,_,o',ab,_,hi⟩)
      ·exact(ak g (by simp)).1 hi
      ·have:=h.inj k id _ o' g hl ab (.inl ai) (.inr (.inl hi));subst this;rw[hl] at ab;cases ab;obtain⟨g2,B2,al,an,ao⟩:=hi;rw[ai] at al;cases al;cases ZY.uniq h8 an;exact(Lj.1 h9).1 ao
     ·simp only[Kl];exact h8.rep fun b hb=>
       have hi:Zf7 Γ w k (.tree sz ns xs none) b:=⟨g,B,ai,h8,hb⟩
       ⟨.inr ⟨k,ag,_,hl,rfl,hi⟩,h.own b (ZkU (h.objs k _ hl) (.inr (.inl hi)))⟩
  ·rename_i af;exact plain fun _ _ hi=>af (by simpa using hi)
 ·intro i j o o' b hi hj ap aq;obtain⟨o0,hl,rfl⟩:=ae i o hi;obtain⟨o1,ab,rfl⟩:=ae j o' hj;exact h.inj i j o0 o1 b hl ab (bk i o0 b ap) (bk j o1 b aq)
 ·rintro b (hb | ⟨id,_,o,hl,_,hi⟩)
  ·exact h.bound b hb
  ·exact h.blk_lt hl (.inr (.inl hi))
theorem ZxP (h:Sim nt F A I Γ U sl hp a w) {o:Oper} {t u e:TypeId} {s x:Operand} {s' x' : Opd} {str flat:Bool}
  (ho:o.op=.call { callee:=.builtin .append,args := #[s,x],argTypes := #[t,u] }) (he:X4 P t=some e) (aa:ZnF P e u=some str) (ae:WC P e=true) (hs:ZW s=some s') (hx:ZW x=some x')
  {base:Nat} (hb:Xa U base) (hd:QP nt o.dst=true) {ms:List Nat} (ah:∀ k∈ms,∃ o,lkp hp k=some o) {ef:Eff} (hv:Y8 hp (P.cellsOf e) (P.bytesOf e) str flat base (evO sl s') (evO sl x') ms=some ef):Zdz P nt F A I Γ U sl hp a w o base { eff:=ef,gone:=[] }:=by
 cases ms with
 | nil=>exact Zs1 h ho he aa ae hs hx hb hd (flat:=flat) (by simp only[Y8] at hv;rw[hv];rfl)
 | cons i r=>
  simp only[Y8] at hv;split at hv
  ·cases hv
  ·obtain⟨e0,h1,hv⟩:=Za hv;cases hv;obtain⟨u',w',hg,I',Γ',b1,b2,b3,b4,b5⟩:=Zs1 (h.meltIn (i :: r)) ho he aa ae hs hx hb hd (flat:=flat) (ce := { eff:=e0,gone:=[] }) (by rw[h1];rfl);refine⟨u',w',hg,I',Γ',b1,⟨fun b hb=>b2.sub b (.inl hb),fun b hb=>b2.blk b (.inl hb)⟩,fun b hb=>?_,b4,b5.sub fun k o hk=>?_⟩
   ·rcases b3 b hb with (h6 | ⟨id,_,o,hl,_,hi⟩) | h6
    ·exact .inl h6
    ·exact .inr (ZkU (h.objs id o hl) (.inr (.inl hi)))
    ·exact .inr h6
   ·have ag : lkp (Zi (Zi (Z6 (Qm e0.frz hp) (e0.dels++(i :: r))) e0.sets) e0.adds) k=some o:=hk;show lkp (Zi (Zi (Z6 (Qm e0.frz (meltIn hp (i :: r))) e0.dels) e0.sets) e0.adds) k=some o;have af:∀ (A:Hp) (ab ad:Hp),(∀ o,lkp ab k=some o→lkp ad k=some o)→∀ o,lkp (Zi ab A) k=some o→lkp (Zi ad A) k=some o:=by
     intro A
     induction A with
     | nil=>intro _ _ h;exact h
     | cons q r ih=>
      intro ab ad h;obtain⟨k',o'⟩:=q;simp only[Zi];refine ih _ _ fun o ho=>?_;rw[Qg] at ho ⊢;split
      ·rename_i e;rw[Kj e] at ho;exact ho
      ·rename_i e;rw[Ke e] at ho;exact h o ho
    refine af _ _ _ (fun o ho=>af _ _ _ (fun o ho=>?_) o ho) o ag;obtain⟨h2,h3⟩:=V4 _ _ _ _ ho;simp only[Kh,not_or] at h3;rw[WK _ _ k h3.1];rw[Qc] at h2 ⊢;rw[Ui];have:(i :: r).contains k=false:=by simpa using h3.2
    rw[this];simpa using h2
theorem ZyW (h:Sim nt F A I Γ U sl hp a w) {o:Oper} {t u e:TypeId} {s x:Operand} {s' x' : Opd}
  (ho:o.op=.call { callee:=.builtin .append,args := #[s,x],argTypes := #[t,u] }) (he:X4 P t=some e) (ak:ZnF P e u=some false) (aw:WC P e=true) (hs:ZW s=some s') (hx:ZW x=some x')
  {base:Nat} (hb:Xa U base) (hd:QP nt o.dst=true) {ce:Ze} (hv:appT hp (P.cellsOf e) (P.bytesOf e) base (evO sl s') (evO sl x')=some ce):Zdz P nt F A I Γ U sl hp a w o base ce:=by
 obtain⟨i,z,hi,hz,ap,af,ab,ae⟩:=YX aw;have ht:=QV he;have aq:∀ {ef:Eff} {v' : Value} {w' : World},(Builtin.append_ #[t,u] o.type #[a.eval s,a.eval x]).run P w=.ok v' w' →
   Vi nt F A I Γ w (UE U base) (Ze.on { eff:=ef,gone:=[] } o.dst sl hp).1 (Ze.on { eff:=ef,gone:=[] } o.dst sl hp).2 (a.put o.dst v') w'→Zdz P nt F A I Γ U sl hp a w o base { eff:=ef,gone:=[] }:=by
  intro ef v' w' hr hp';refine⟨v',w',.inl ?_,hp'⟩;simp only[execOp,ho,resolve,invoke,builtin,Sem.run_bind,Sem.run_pure,Result.andThen_ok,List.map_toArray,Kk,Kt,hr]
 unfold appT Zgr at hv;obtain⟨ef,ar,ax⟩:=Za hv;clear hv;cases ax;obtain⟨q,hq,hv⟩:=Za ar;clear ar;have tree:∀ {id:Nat} {q:Nat×Nat×List D},Zmk (lkp hp id)=some q→lkp hp id=some (.tree q.1 q.2.1 q.2.2 none):=by
  intro id q hq;unfold Zmk at hq;split at hq
  ·rename_i hl;cases hq;exact hl
  ·cases hq
 split at hv
 ·rename_i c1;have hu:P.underlying u=some (.slice e):=by
   rcases Zqn ak with ⟨h2,_⟩ | ⟨_,h2⟩
   ·cases h2
   ·exact h2
  unfold ZcY at hq;split at hq
  ·rename_i ay az;obtain⟨q2,h2,hq⟩:=Za hq;cases hq;have aj:=tree h2;obtain⟨s2,n2,ys⟩:=q2;dsimp only at c1 hv aj;have ag:=h.slOK.ev hx;rw[az] at ag;obtain⟨a1,m2,k2,s3,al,ag⟩:=ag;obtain⟨_,_,_,ah,_⟩:=h.objs ay _ aj;rw[al] at ah;cases ah;subst c1;rw[ab] at aj al hv;rw[ae] at hv;obtain⟨B2,cs,au⟩:=Zte h aj al;have aa:=h.slOK.ev hs;unfold Za4 at hv;split at hv
   ·rename_i am;rw[am] at aa;obtain⟨ad,aa⟩:=aa;split at hv
    ·rename_i hc;cases hv;obtain⟨v',w',h3,h4⟩:=Ztf (ty:=o.type) h hb ht hi hz ap af hd hu (Zv5 (ids:=[]) (ad:=ad)) au (fun k hk=>by simp at hk) (by simpa using hc.1) (by simpa using hc.2);exact aq (by rw[aa,ag];exact h3) (by rw[Xj];exact h4)
    ·cases hv
   ·rename_i a0 am;rw[am] at aa;obtain⟨ad,n,c,s4,av,aa⟩:=aa;obtain⟨q1,h5,hw⟩:=Za hv;clear hv;have hv:=hw;clear hw;split at hv
    ·rename_i hc;obtain⟨c2,c3,c4,c5,c6⟩:=hc;cases hv;have an:=tree h5;obtain⟨s5,n5,xs⟩:=q1;dsimp only at c2 c3 c5 c6 an;obtain⟨_,_,_,ai,a2,_⟩:=h.objs a0 _ an;rw[av] at ai;cases ai;subst c2 c3;obtain⟨B1,os,ao⟩:=Zte h an av;obtain⟨v',w',h3,h4⟩:=Ztf (ty:=o.type) h hb ht hi hz ap af hd hu ao au (fun k hk=>by simp at hk;subst hk;simpa using c4) (by rw[ao.len];exact c5) (by rw[ao.len];exact c6);exact aq (by rw[aa,ag];exact h3) (by rw[Xj];exact h4)
    ·cases hv
   ·cases hv
  ·cases hq
 ·cases hv
theorem ZxQ (h:Sim nt F A I Γ U sl hp a w) {o:Oper} {t u e:TypeId} {s x:Operand} {s' x' : Opd} {str flat:Bool}
  (ho:o.op=.call { callee:=.builtin .append,args := #[s,x],argTypes := #[t,u] }) (he:X4 P t=some e) (aa:ZnF P e u=some str) (ad:WC P e=true) (hs:ZW s=some s') (hx:ZW x=some x')
  {base:Nat} (hb:Xa U base) (hd:QP nt o.dst=true) {ce:Ze} (hv:ZvL hp (P.cellsOf e) (P.bytesOf e) str flat base (evO sl s') (evO sl x')=some ce):Zdz P nt F A I Γ U sl hp a w o base ce:=by
 have ae:∀ {k:Nat} (z:AV),k∈XO hp z→∃ o,lkp hp k=some o:=by
  intro k z hz;unfold XO at hz;split at hz
  ·split at hz
   ·rename_i id af;simp at hz;subst hz;cases hl:lkp hp k with
    | none=>rw[hl] at af;cases af
    | some o=>exact⟨o,rfl⟩
   ·simp at hz
  ·simp at hz
 have melt:∀ {ms:List Nat} {ce:Ze},(∀ k∈ms,∃ o,lkp hp k=some o)→Zgr (Y8 hp (P.cellsOf e) (P.bytesOf e) str flat base (evO sl s') (evO sl x') ms)=some ce→Zdz P nt F A I Γ U sl hp a w o base ce:=by
  intro ms ce hm hv;obtain⟨ef,ag,ah⟩:=Za hv;cases ah;exact ZxP h ho he aa ad hs hx hb hd hm ag
 unfold ZvL at hv;have kx:∀ k∈XO hp (evO sl s'),∃ o,lkp hp k=some o:=fun k hk=>ae _ hk;have ky:∀ k∈XO hp (evO sl x'),∃ o,lkp hp k=some o:=fun k hk=>ae _ hk;generalize XO hp (evO sl s')=mx at hv kx;generalize XO hp (evO sl x')=my at hv ky;cases mx with
 | nil=>exact melt ky hv
 | cons i r=>
  cases my with
  | nil=>exact melt kx hv
  | cons j t=>
   simp only[Zdt] at hv;split at hv
   ·cases hv
   ·rename_i hc;have ab:str=false:=by cases str<;>simp_all
    subst ab;exact ZyW h ho he aa ad hs hx hb hd hv
end
end Go.Abs
