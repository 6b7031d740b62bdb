import Derived.Test.YtfnegoimdljanaaGreatDoorAbsCall3
import Derived.Laws.StructEq
set_option linter.all false
namespace Go.Abs
open Go
theorem Zlt {α:Type} (zc:List α):∀ (n i j:Nat),i<n→j<zc.length→((List.replicate n zc).flatten)[i*zc.length+j]?=zc[j]?
 | 0,i,j,h,_=>by omega
 | n+1,0,j,_,hj=>by rw[LZ,Lj,Nat.zero_mul,K0,KN hj]
 | n+1,i+1,j,h,hj=>by
  have e:(i+1)*zc.length+j=zc.length+(i*zc.length+j):=by rw[KU];omega
  rw[LZ,Lj,e,KL o_,Lv];exact Zlt zc n i j o_ hj
theorem Zvu {α:Type} (zc:List α) (n:Nat):((List.replicate n zc).flatten).length=n*zc.length:=by simp
section
variable {P:Program} {nt:Nat} {U:Nat→Prop} {F A I:Nat→Prop} {Γ:Gh} {sl:Sl} {hp:Hp} {a:Act} {w:World}
theorem ZCI (h:Sim nt F A I Γ U sl hp a w) {o:Oper} {t e:TypeId} {x:Operand} {x' : Opd} {z:Value} {d:D} (ho:o.op=.call { callee:=.builtin .clear,args := #[x],argTypes := #[t] }) (he:Yp P t=some e) (hx:ZZ x=some x')
  (hz:ZaK P e=some z) (an:evD z=some d) (a6:W5 P e=true) {base:Nat} (hb:Xl U base) (hd:QY nt o.dst=true) {ce:Zf} (hv:Zhk (ZfD hp (P.cellsOf e) d (evO sl x'))=some ce):ZdZ P nt F A I Γ U sl hp a w o base ce:=by
 obtain⟨i,z',hi,a7,bh,a8,ao,ap⟩:=Vj a6;obtain⟨i',aw,ag⟩:=Zfy hz;rw[hi] at aw;cases aw;rw[a7] at ag;cases ag;unfold Zhk at hv;obtain⟨ef,h1,hv⟩:=Za hv;cases hv;have ax:=h.slOK.ev hx;unfold ZfD at h1;split at h1
 ·rename_i id off n a9;rw[a9] at ax;obtain⟨a0,m,c,sz,av,hb1,h2,h3,hb2,h4,h5⟩:=ax;unfold ZlQ at h1;split at h1
  ·rename_i bi xs ex hl;split at h1
   ·rename_i hc;obtain⟨c1,c2,c3⟩:=hc;cases h1;obtain⟨ad,n',c',ay,hn,az⟩:=h.objs id _ hl;rw[hb1] at ay;cases ay;generalize P.cellsOf e=pe at *;subst c1;have run:∀ w' : World,(Builtin.clear_ #[t] o.type #[a.eval x]).run P w=.ok (.tuple #[]) w'→ZrC P o a w (.tuple #[]) w':=fun w' hr=>.inl (by
     simp only[execOp,ho,resolve,invoke,Sem.run_bind,Sem.run_pure,Result.andThen_ok];simp[builtin,hr])
    cases n with
    | zero=>
     refine⟨_,w,run w ?_,?_⟩
     ·rw[hb2];cases av<;>simp[Builtin.clear_,run_underlying (Q7 he)]
     ·rw[Xx];have ah:∀ k o',lkp (Zi (Zi (Qe (Qq [] hp) []) [(id,.row sz (xs.take off++List.replicate 0 d++xs.drop (off+0)) ex false)]) []) k=some o'→lkp hp k=some o':=by
       intro k o' hk;simp only[Zi,Qe,Qq,Qn] at hk;split at hk
       ·rename_i e1;subst e1;simp at hk;rw[hl,← hk]
       ·exact hk
      exact(h.sub ah).pure (fun id hu=>.inl hu) ⟨#[],rfl,trivial⟩ hd
    | succ n=>
     rcases az with az | ⟨g,q0,cur,e',a',a1,hw,ba,bb,am,ai,aj,a2,a3⟩
     ·omega
     ·subst a';obtain⟨am,bc⟩:=am;have bd:av=some ⟨g,q0+off*sz,none⟩:=by
       rcases h5 with h5 | h5
       ·rw[h5];simp[Wl]
       ·omega
      subst bd;simp only[Ka,Kn] at aj;have ak:z.cells.toList.length=sz:=by rw[← c2];exact(Zqd (w:=w) (S:=I) an).length
      have be:=Zah (w:=w) (S:=I) ak (Zqd an) (n+1);have a4:((List.replicate (n+1) z.cells.toList).flatten).length=(n+1)*sz:=by rw[Zvu,ak]
      have aq:=ZrG be;have bf:q0+off*sz+(n+1)*sz≤cur.size:=by
       rw[am,KW,← KU];exact Kah (KQ _ o_) _
      have ar:=run_storeCells_at P g (q0+off*sz) e' ((List.replicate (n+1) z.cells.toList).flatten) 0 cur w hw (by rw[a4];simpa using bf) aq;have aa:(Builtin.zeroCells z.cells (n+1)).toList=(List.replicate (n+1) z.cells.toList).flatten:=Zag z.cells (n+1);have al:cur.toList.take (q0+off*sz+0)++(List.replicate (n+1) z.cells.toList).flatten++cur.toList.drop (q0+off*sz+0+((List.replicate (n+1) z.cells.toList).flatten).length)=Zx cur.toList (q0+off*sz) ((List.replicate (n+1) z.cells.toList).flatten):=rfl;rw[al] at ar;generalize hZ:(List.replicate (n+1) z.cells.toList).flatten=Z at ar a4 aa al;refine⟨_,w.setRow g (Zx cur.toList (q0+off*sz) Z).toArray,run _ ?_,?_⟩
      ·rw[hb2];simp[Builtin.clear_,run_underlying (Q7 he),ZeU hz,aa,ar]
      ·rw[Xx];have bg:¬(if ex then fun b=>I b∧A b else I) g:=by cases ex<;>simp<;>first | exact aj | exact fun hI=>absurd hI aj
       have au:(Zx cur.toList (q0+off*sz) Z).length=cur.size:=by rw[VQ];simp;simp;omega
       have ab:(w.setRow g (Zx cur.toList (q0+off*sz) Z).toArray).heap[g]?=some (.cells (Zx cur.toList (q0+off*sz) Z).toArray e' (0,0)):=setRow_heap w g cur _ e' _ hw;refine h.turn hb hl (by rw[hb1];simp[ZA,KK a1]) aj a2 (adds:=[]) (Qj.refl Γ) (fun _ _=>rfl) (fun k o hk=>by simp at hk) (fun k hk=>h.names k (fun hu=>hk (.inl hu))) ?_ ⟨#[],rfl,trivial⟩ hd;refine⟨_,m,c,hb1,by simp;omega,.inr ⟨g,q0,_,e',rfl,a1,ab,ba,bb,⟨by simp[au,am],bc⟩,ai,by simpa using aj,a2,?_⟩⟩;have keep:ZP (if ex then fun b=>I b∧A b else I) (if ex then fun b=>I b∧A b else I) w (w.setRow g (Zx cur.toList (q0+off*sz) Z).toArray):=Jo bg
       have ae:∀ p,(w.setRow g (Zx cur.toList (q0+off*sz) Z).toArray).cell? ⟨g,p,none⟩=(Zx cur.toList (q0+off*sz) Z)[p]?:=fun p=>by
        rw[cell_of_row _ _ _ _ _ _ ab];simp
       have af:∀ p,w.cell? ⟨g,p,none⟩=cur.toList[p]?:=fun p=>by rw[cell_of_row _ _ _ _ _ _ hw];simp
       rw[Yo] at a3 ⊢;have e3:xs.take off++List.replicate (n+1) d++xs.drop (off+(n+1))=Zx xs off (List.replicate (n+1) d):=by simp[Zx]
       intro k y hk;rw[e3,Qw _ _ _ _ (by simp;omega)] at hk;simp only[L8] at hk;split at hk
       ·rename_i a5;have hy:y=d:=by
         have:=Kb hk;exact(List.mem_replicate.1 this).2
        subst hy;refine⟨z.cells.toList,ak,fun p u hu=>?_,Zqd an⟩;have hp:p<sz:=by rw[← ak];exact(Kc.1 hu).1
        have e4:q0+k*sz+p=q0+off*sz+((k-off)*sz+p):=by
         have:k=off+(k-off):=o_
         rw[this,KU];simp;omega
        have e5:(k-off)*sz+p<(n+1)*sz:=by
         have:(k-off+1)*sz≤(n+1)*sz:=KQ _ o_;rw[KU] at this;omega
        rw[ae,e4,Qw _ _ _ _ (by simp;omega),Kg o_,Lv,← hZ];have:=Zlt z.cells.toList (n+1) (k-off) p o_ o_;rw[ak] at this;rw[this];exact hu
       ·rename_i a5;obtain⟨vs,v1,v2,v3⟩:=a3 k y hk;refine⟨vs,v1,fun p u hu=>?_,v3.mono keep⟩;have hp:p<sz:=by rw[← v1];exact(Kc.1 hu).1
        have e6:¬(q0+off*sz≤q0+k*sz+p∧q0+k*sz+p<q0+off*sz+Z.length):=by
         rintro ⟨g1,g2⟩
         have g2:k*sz+p<off*sz+(n+1)*sz:=o_
         rw[← KU] at g2;have g3:k<off+(n+1):=by
          rcases K7 k (off+(n+1)) with h | h
          ·exact h
          ·have:=KQ sz h;omega
         have g4:off≤k:=by
          rcases K7 k off with h | h
          ·have:=KQ sz (show k+1≤off from h);rw[KU] at this;omega
          ·exact h
         exact a5 ⟨g4,g3⟩
        rw[ae,Qw _ _ _ _ (by simp;omega),Kd e6,← af];exact v2 p u hu
   ·cases h1
  ·cases h1
 ·cases h1
end
end Go.Abs
namespace Go.Abs
open Go
section
variable {P:Program} {nt:Nat} {U:Nat→Prop} {F A I:Nat→Prop} {Γ:Gh} {sl:Sl} {hp:Hp} {a:Act} {w:World}
theorem Sim.takes (h:Sim nt F A I Γ U sl hp a w) {base:Nat} (hb:Xl U base) {dels:List Nat} {o1:Zm} {r:Ref} {w' : World} (ay:w.heap.size≤w'.heap.size) (a2:w'.os=w.os) (af:w'.tape=w.tape) (al:w'.output=w.output)
  (ae:∀ k,k<w.heap.size→w'.heap[k]?=w.heap[k]?∨(∃ id∈dels,∃ o,lkp hp id=some o∧Blk Γ w id o k)∧¬I k)
  (a3:Y3 (upd Γ base r) w' I F A base o1) {v:AV} {u:Value} {dst:Option Nat} (am:Rep (upd Γ base r) w' I v u) (an:QY nt dst=true)
  (ao:∀ b,Blk (upd Γ base r) w' base o1 b→w.heap.size≤b∨∃ id∈dels,∃ o,lkp hp id=some o∧Blk Γ w id o b) :
  VI nt F A I Γ w (U8 U base) (Zs sl dst v) (Zi (Qe hp dels) [(base,o1)]) (a.put dst u) w':=by
 have aa:ZP I I w w':=⟨fun _ h=>h,fun b ah=>(ae b (h.bound b ah)).elim id fun hh=>absurd ah hh.2⟩
 have hk:Qj Γ (upd Γ base r):=VO _ (h.names base hb.self);have hF:∀ k,k<w.heap.size→¬F k→w'.heap[k]?=w.heap[k]?:=fun k hk hf=>(ae k hk).elim id fun ⟨⟨id,_,o,hl,ab⟩,_⟩=>absurd (Zl7 (h.objs id o hl) ab) hf;refine⟨I,upd Γ base r,hk,aa,fun _ h=>.inl h,⟨a2,af,al,ay,hF⟩,?_⟩;have ap:∀ i o,lkp (Zi (Qe hp dels) [(base,o1)]) i=some o→(i=base∧o=o1)∨(i≠base∧i∉dels∧lkp hp i=some o):=by
  intro i o hi;simp only[Zi,Qn] at hi;split at hi
  ·rename_i e;cases hi;exact .inl ⟨e.symm,rfl⟩
  ·rename_i e;obtain⟨h1,h2⟩:=Ws _ _ _ _ hi;exact .inr ⟨fun e'=>e e'.symm,h2,h1⟩
 have ag:∀ i o b,i∉dels→lkp hp i=some o→Blk Γ w i o b→w'.heap[b]?=w.heap[b]?:=fun i o b hn hl ab=>
  (ae b (h.blk_lt hl ab)).elim id fun ⟨⟨id,aq,o',a4,ah⟩,_⟩=>absurd (h.inj i id o o' b hl a4 ab ah ▸ aq) hn
 have ai:∀ i o b,i≠base→i∉dels→lkp hp i=some o→Blk (upd Γ base r) w' i o b→Blk Γ w i o b:=fun i o b h1 h2 h3 h4=>
  h4.back (h.objs i o h3) (QN _ _ h1) fun g' a5=>ag i o g' h2 h3 a5
 refine h.next hk aa ?_ ?_ (fun b hI=>by have:=h.bound b hI;omega) ay (fun k az=>by rw[QN _ _ (fun e=>az (.inr o_))];exact h.names k (fun hu=>az (.inl hu))) am an
 ·intro i o hi;rcases ap i o hi with ⟨rfl,rfl⟩ | ⟨a6,ar,hm⟩
  ·exact a3
  ·exact(h.objs i o hm).mono hk aa fun b ab=>⟨ag i o b ar hm ab,fun h=>h⟩
 ·have ad:∀ j o' b,j∉dels→lkp hp j=some o'→Blk Γ w j o' b→Blk (upd Γ base r) w' base o1 b→False:=by
   intro j o' b hj hl ab hn;rcases ao b hn with h1 | ⟨id,aq,o,h1,h2⟩
   ·have:=h.blk_lt hl ab;omega
   ·exact hj (h.inj j id o' o b hl h1 ab h2 ▸ aq)
  intro i j o o' b hi hj au av;rcases ap i o hi with ⟨rfl,rfl⟩ | ⟨a0,aw,aj⟩<;>rcases ap j o' hj with ⟨rfl,rfl⟩ | ⟨a1,ax,ak⟩
  ·rfl
  ·exact(ad j o' b ax ak (ai j o' b a1 ax ak av) au).elim
  ·exact(ad i o b aw aj (ai i o b a0 aw aj au) av).elim
  ·exact h.inj i j o o' b aj ak (ai i o b a0 aw aj au) (ai j o' b a1 ax ak av)
theorem ZBj {ns:Nat} {v:Value} {d:D} (h:ZlI v=some d):Qu w ns [] d v:=by
 unfold ZlI at h;split at h<;>cases h
 ·simp[Qu]
 ·simp[Qu]
 ·simp only[Qu];exact⟨⟨_,rfl,rfl⟩,trivial⟩
 ·simp only[Qu];exact⟨none,0,rfl,Kr _,.inl ⟨rfl,trivial⟩⟩
theorem ZtW {ns:Nat}:∀ {vs:List Value} {ds:List D},QJ ZlI vs=some ds→Qm w ns [] ds vs
 | [],ds,h=>by simp only[QJ] at h;cases h;simp[Qm]
 | v :: vs,ds,h=>by
  simp only[QJ] at h;obtain⟨d,h1,h⟩:=Za h;obtain⟨aa,h2,h⟩:=Za h;cases h;simp only[Qm];exact⟨v,vs,[],[],rfl,rfl,ZBj h1,ZtW h2⟩
theorem ZEd {ns:Nat} {v:Value} {d:D} (h:evD v=some d) (ha:d.isAgg=true):XC w ns [] d v.cells.toList:=by
 unfold evD at h;split at h
 ·obtain⟨ds,h1,h⟩:=Za h;cases h;simp only[XC,Value.cells];exact ZtW h1
 ·unfold ZlI at h;split at h<;>cases h<;>cases ha
theorem Zhq {g sz ns:Nat} {d:D} {c:List Value} (hl:c.length=sz) (hd:XC w ns [] d c):∀ (n o:Nat),Qz w g o (List.replicate n c).flatten→Z1 w ns [] g sz (List.replicate n d) o
 | 0,o,_=>by simp[Z1]
 | n+1,o,h=>by
  simp only[LZ,Lj] at h;simp only[LZ,Z1];refine⟨c,[],[],rfl,hl,fun j u hu=>h j u ?_,hd,Zhq hl hd n (o+sz) fun j u hu=>?_⟩
  ·rw[KN (Kc.1 hu).1];exact hu
  ·have:=h (c.length+j) u (by rw[KL o_,Lv];exact hu);rw[← KW,hl] at this;exact this
theorem ZCJ (h:Sim nt F A I Γ U sl hp a w) {o:Oper} {t e:TypeId} {l c:Operand} {l' c' : Opd} {z:Value} {d:D} (ho:o.op=.makeSlice t l c) (he:Yp P t=some e) (hl:ZZ l=some l') (hc:ZZ c=some c')
  (hz:ZaK P e=some z) (am:evD z=some d) (an:W5 P e=true) {base ns:Nat} (hb:Xl U base) (hd:QY nt o.dst=true) {ce:Zf} {n m:Int} (hn:idx (evO sl l')=some n) (hm:idx (evO sl c')=some m)
  (hv:makeT base (P.cellsOf e) (P.bytesOf e) ns d n m=some ce):ZdZ P nt F A I Γ U sl hp a w o base ce:=by
 obtain⟨i,z',hi,ai,aj,ag,ab,ad⟩:=Vj an;obtain⟨i',ak,ae⟩:=Zfy hz;rw[hi] at ak;cases ak;rw[ai] at ae;cases ae;obtain⟨k1,e1⟩:=V2 hn (h.slOK.ev hl);obtain⟨k2,e2⟩:=V2 hm (h.slOK.ev hc);unfold makeT at hv;split at hv
 ·rename_i af;obtain⟨c1,c2,c3,c4,c5,c6⟩:=af;cases hv;rw[ab] at c5 ⊢;rw[ad] at c3;have hr:=run_make (P:=P) w t e i z (Q7 he) hi ai k1 k2 n m c1 c2 (by have h2:=c3;rw[Int.mul_comm] at h2;simp only[ZM] at h2;omega) (by simp only[ZM] at c4;omega);refine⟨.slice (some ⟨w.heap.size,0,none⟩) n.toNat m.toNat,w.alloc (.cells (madeCells z.cells (m.toNat*i.size)) e),.inl (by simp[execOp,ho,e1,e2,hr]),?_⟩;rw[Xx];have al : (w.alloc (.cells (madeCells z.cells (m.toNat*i.size)) e)).heap[w.heap.size]?=some (.cells (madeCells z.cells (m.toNat*i.size)) e (0,0)):=heap_alloc_new w _;have hT:Z1 (w.alloc (.cells (madeCells z.cells (m.toNat*i.size)) e)) ns [] w.heap.size i.size (List.replicate n.toNat d) 0:=by
   refine Zhq (by simp[aj]) (ZEd am c6) n.toNat 0 (VJ al (ys:=(List.replicate (m.toNat-n.toNat) z.cells.toList).flatten) ?_);rw[← aj,Zag,← Lz,List.replicate_append_replicate];congr 2
   omega
  have ao:F w.heap.size:=h.fresh _ (Kr _);have ap:¬I w.heap.size:=fun hi=>absurd (h.bound _ hi) o_;refine h.takes hb (w':=w.alloc (.cells (madeCells z.cells (m.toNat*i.size)) e)) (dels:=[]) (r:=.row (some ⟨w.heap.size,0,none⟩) n.toNat m.toNat i.size) (by simp) rfl rfl rfl (fun k hk=>.inl (Yt w _ k hk)) ?_ ⟨_,_,_,_,ZJ _ _ _,rfl⟩ hd fun b aa=>?_
  ·refine⟨_,n.toNat,m.toNat,ZJ _ _ _,⟨by simp,?_⟩,trivial⟩;rcases LC m.toNat with ah | ah
   ·exact .inl ⟨o_,ah,rfl⟩
   ·exact .inr ⟨_,_,e,[],rfl,ah,al,o_,by simp only[ZM] at c4;simp only[maxLen];omega,size_madeCells _ _,ag,hT,by simp,fun b hb=>by simp at hb;subst hb;exact⟨ap,ao⟩⟩
  ·rcases aa with aa | ⟨g,B,hg,hB,aa⟩ | aa
   ·rw[J7,ZJ] at aa;simp only[ZA] at aa;split at aa
    ·cases aa
    ·cases aa;exact .inl (Kr _)
   ·rw[ZJ] at hg;simp only[ZA] at hg;split at hg
    ·cases hg
    ·cases hg;cases Z1.uniq hT hB;simp at aa
   ·exact aa.elim
 ·cases hv
theorem ZCK {ns:Nat} {B:List Nat} {d:D} {v:Value} (h:Qu w ns B d v):v.oneCell'=true:=by
 cases d with
 | sl ys=>simp only[Qu] at h;obtain⟨a,c,rfl,_⟩:=h;rfl
 | agg cs=>simp only[Qu] at h
 | int k n=>simp only[Qu] at h;rw[h.1];rfl
 | bool b=>simp only[Qu] at h;rw[h.1];rfl
 | str s=>simp only[Qu] at h;obtain⟨⟨t,rfl,_⟩,_⟩:=h;rfl
theorem ZwF {ns:Nat}:∀ {ds:List D} {B:List Nat} {vs:List Value},Qm w ns B ds vs→∀ v∈vs,v.oneCell'=true
 | [],_,_,h,v,hv=>by simp only[Qm] at h;rw[h.1] at hv;simp at hv
 | d :: ds,_,_,h,v,hv=>by
  simp only[Qm] at h;obtain⟨u,r,B1,B2,rfl,rfl,h2,h3⟩:=h;rcases Ke.1 hv with rfl | hv
  ·exact ZCK h2
  ·exact ZwF h3 v hv
theorem Zqv {ns g sz:Nat}:∀ {xs:List D} {B:List Nat} {o:Nat},Z1 w ns B g sz xs o→∃ os:List Value,os.length=xs.length*sz∧Qz w g o os∧(∀ v∈os,v.oneCell'=true) ∧
  ∀ (w' : World) (g' o' : Nat),(∀ b∈B,w'.heap[b]?=w.heap[b]?)→Qz w' g' o' os→Z1 w' ns B g' sz xs o'
 | [],B,o,h=>⟨[],by simp,fun j u hu=>by simp at hu,fun v hv=>by simp at hv,fun w' g' o' _ _=>by simpa only[Z1] using h⟩
 | d :: ds,B,o,h=>by
  simp only[Z1] at h;obtain⟨vs,B1,B2,rfl,h1,h2,h3,h4⟩:=h;obtain⟨os,k1,k2,k3,k4⟩:=Zqv h4;refine⟨vs++os,by simp only[Kq,Kl,h1,k1,KU];omega,fun j u hu=>?_,fun v hv=>?_,fun w' g' o' hk aa=>?_⟩
  ·rw[Kap] at hu;split at hu
   ·exact h2 j u hu
   ·have:=k2 _ u hu;have e:o+sz+(j-vs.length)=o+j:=o_
    rwa [e] at this
  ·rcases Kj.1 hv with hv | hv
   ·exact ZwF h3.cells v hv
   ·exact k3 v hv
  ·simp only[Z1];refine⟨vs,B1,B2,rfl,h1,fun j u hu=>aa j u ?_,h3.mono fun b hb=>hk b (by simp[hb]),k4 w' g' (o'+sz) (fun b hb=>hk b (by simp[hb])) fun j u hu=>?_⟩
   ·rw[KN (Kc.1 hu).1];exact hu
   ·have:=aa (vs.length+j) u (by rw[KL o_,Lv];exact hu)
    rwa [← KW,h1] at this
theorem Zkz (h:Sim nt F A I Γ U sl hp a w) {ns s:Nat}:∀ {vs:List AV} {us:List Value} {q:List D×List Nat},Zz (Rep Γ w I) vs us→Vt hp ns s vs=some q →
  ∃ B,B.Nodup∧(∀ b∈B,¬I b∧F b)∧(∀ b∈B,∃ id∈q.2,∃ o,lkp hp id=some o∧Blk Γ w id o b)∧(∀ u∈us,u.cells.size=s)∧q.1.length=us.length ∧
   ∀ (w' : World) (g o:Nat),(∀ b∈B,w'.heap[b]?=w.heap[b]?)→Qz w' g o (us.map fun u=>u.cells.toList).flatten→Z1 w' ns B g s q.1 o
 | [],[],q,_,hq=>by
  simp only[Vt] at hq;cases hq;exact⟨[],LA,fun b hb=>by simp at hb,fun b hb=>by simp at hb,fun u hu=>by simp at hu,rfl,fun w' g o _ _=>by simp[Z1]⟩
 | [],_ :: _,_,h,_=>h.elim
 | _ :: _,[],_,h,_=>h.elim
 | x :: vs,u :: us,q,hr,hq=>by
  cases x with
  | agg cs=>
   simp only[Vt] at hq;obtain⟨q1,h1,hq⟩:=Za hq;obtain⟨q2,h2,hq⟩:=Za hq;split at hq
   ·rename_i hc;obtain⟨hl,hc⟩:=hc;cases hq;obtain⟨ws,rfl,ah⟩:=hr.1;obtain⟨B1,j1,j2,j3,j4⟩:=Zmd h ah h1;obtain⟨B2,k1,k2,k3,k4,k5,k6⟩:=Zkz h hr.2 h2;have ab:ws.size=s:=by have:=j1.length;simp at this;omega
    refine⟨B1++B2,LX.2 ⟨j2,k1,fun b hb b' ai e=>?_⟩,fun b hb=>?_,fun b hb=>?_,fun u hu=>?_,by simp[k5],fun w' g o hk ad=>?_⟩
    ·subst e;obtain⟨id,aa,o,hl,aj⟩:=j4 b hb;obtain⟨ak,ae,o',al,af⟩:=k3 b ai;have:=h.inj id ak o o' b hl al aj af;subst this;simp only[K9] at hc;have:(q1.2.any q2.2.contains)=true:=LR.2 ⟨id,aa,by simpa using ae⟩;rw[this] at hc;cases hc
    ·rcases Kj.1 hb with hb | hb
     ·exact j3 b hb
     ·exact k2 b hb
    ·rcases Kj.1 hb with hb | hb
     ·obtain⟨id,aa,hh⟩:=j4 b hb;exact⟨id,by simp[aa],hh⟩
     ·obtain⟨id,aa,hh⟩:=k3 b hb;exact⟨id,by simp[aa],hh⟩
    ·rcases Ke.1 hu with rfl | hu
     ·exact ab
     ·exact k4 u hu
    ·simp only[Kh,Lj,Value.cells] at ad;simp only[Z1];refine⟨ws.toList,B1,B2,rfl,by simpa using ab,fun j u hu=>ad j u ?_,Zq0 (j1.mono fun b hb=>hk b (by simp[hb])),k6 w' g (o+s) (fun b hb=>hk b (by simp[hb])) fun j u hu=>?_⟩
     ·rw[KN (Kc.1 hu).1];exact hu
     ·have:=ad (ws.toList.length+j) u (by rw[KL o_,Lv];exact hu)
      rwa [← KW,Le,ab] at this
   ·cases hq
  | own id0=>
   simp only[Vt] at hq;obtain⟨q1,h1,hq⟩:=Za hq;obtain⟨q2,h2,hq⟩:=Za hq;split at hq
   ·rename_i hc;obtain⟨hl,hc⟩:=hc;cases hq;have ah:Zz (YT Γ w I) [.own id0] [u]:=⟨hr.1,trivial⟩
    have ag:u.cells.toList=[u]:=by obtain⟨_,_,_,_,_,rfl⟩:=hr.1;rfl
    obtain⟨B1,j1,j2,j3,j4⟩:=Zmd h ah h1;obtain⟨B2,k1,k2,k3,k4,k5,k6⟩:=Zkz h hr.2 h2;have ab:u.cells.size=s:=by
     have:=j1.length;rw[← Le,ag];simp at this ⊢;omega
    refine⟨B1++B2,LX.2 ⟨j2,k1,fun b hb b' ai e=>?_⟩,fun b hb=>?_,fun b hb=>?_,fun u' hu=>?_,by simp[k5],fun w' g o hk ad=>?_⟩
    ·subst e;obtain⟨id,aa,o,hl,aj⟩:=j4 b hb;obtain⟨ak,ae,o',al,af⟩:=k3 b ai;have:=h.inj id ak o o' b hl al aj af;subst this;simp only[K9] at hc;have:(q1.2.any q2.2.contains)=true:=LR.2 ⟨id,aa,by simpa using ae⟩;rw[this] at hc;cases hc
    ·rcases Kj.1 hb with hb | hb
     ·exact j3 b hb
     ·exact k2 b hb
    ·rcases Kj.1 hb with hb | hb
     ·obtain⟨id,aa,hh⟩:=j4 b hb;exact⟨id,by simp[aa],hh⟩
     ·obtain⟨id,aa,hh⟩:=k3 b hb;exact⟨id,by simp[aa],hh⟩
    ·rcases Ke.1 hu with rfl | hu
     ·exact ab
     ·exact k4 u' hu
    ·simp only[Kh,Lj,ag] at ad;simp only[Z1];refine⟨[u],B1,B2,rfl,by rw[← ag,Le];exact ab,fun j u' hu=>ad j u' ?_,Zq0 (j1.mono fun b hb=>hk b (by simp[hb])),k6 w' g (o+s) (fun b hb=>hk b (by simp[hb])) fun j u' hu=>?_⟩
     ·rw[KN (Kc.1 hu).1];exact hu
     ·have:=ad ([u].length+j) u' (by rw[KL o_,Lv];exact hu)
      rwa [← KW,show [u].length=s by rw[← ag,Le];exact ab] at this
   ·cases hq
  | _=>simp[Vt] at hq
theorem Sim.newTree (h:Sim nt F A I Γ U sl hp a w) {base:Nat} (hb:Xl U base) {dels:List Nat} {w' : World} {g n c sz ns:Nat} {xs:List D} {B:List Nat} {cur:Array Value} {e:TypeId} (al:w.heap.size≤w'.heap.size) (am:w'.os=w.os) (ab:w'.tape=w.tape) (af:w'.output=w.output)
  (ag:∀ k,k<w.heap.size→k≠g→w'.heap[k]?=w.heap[k]?) (ad:w.heap.size≤g∨∃ id∈dels,∃ o,lkp hp id=some o∧Blk Γ w id o g) (ak:¬I g) (an:F g)
  (hn:n=xs.length) (hc:0<c) (ae:w'.heap[g]?=some (.cells cur e (0,0))) (ao:n≤c) (ap:c≤maxLen) (aq:cur.size=c*sz) (ah:0<sz) (hT:Z1 w' ns B g sz xs 0) (ar:(g :: B).Nodup)
  (hB:∀ b∈B,¬I b∧F b) (au:∀ b∈B,∃ id∈dels,∃ o,lkp hp id=some o∧Blk Γ w id o b) {dst:Option Nat} (hd:QY nt dst=true) :
  VI nt F A I Γ w (U8 U base) (Zs sl dst (.own base)) (Zi (Qe hp dels) [(base,.tree sz ns xs none)]) (a.put dst (.slice (some ⟨g,0,none⟩) n c)) w':=by
 have ai:∀ k,k<w.heap.size→w'.heap[k]?=w.heap[k]?∨(∃ id∈dels,∃ o,lkp hp id=some o∧Blk Γ w id o k)∧¬I k:=by
  intro k hk;by_cases e:k=g
  ·subst e;rcases ad with ad | ad
   ·omega
   ·exact .inr ⟨ad,ak⟩
  ·exact .inl (ag k hk e)
 refine h.takes hb (r:=.row (some ⟨g,0,none⟩) n c sz) al am ab af ai ?_ ⟨_,_,_,_,ZJ _ _ _,rfl⟩ hd ?_
 ·refine⟨_,_,_,ZJ _ _ _,⟨hn,.inr ⟨g,cur,e,B,rfl,hc,ae,ao,ap,aq,ah,hT,ar,fun b hb=>?_⟩⟩,trivial⟩;rcases Ke.1 hb with rfl | hb
  ·exact⟨ak,an⟩
  ·exact hB b hb
 ·intro b aa;rcases aa with aa | ⟨g',B',aj,av,aa⟩ | aa
  ·rw[J7,ZJ] at aa;simp[ZA,KK hc] at aa;subst aa;exact ad
  ·rw[ZJ] at aj;simp[ZA,KK hc] at aj;subst aj;cases Z1.uniq hT av;exact .inr (au b aa)
  ·exact aa.elim
theorem ZBk (h:Sim nt F A I Γ U sl hp a w) {o:Oper} {t e:TypeId} {n ns:Nat} {ps:Array (Nat×Operand)} {ys:List Opd} (ho:o.op=.buildSlice t n ps) (he:Yp P t=some e)
  (am:QJ (fun q:Nat×Operand=>ZZ q.2) ps.toList=some ys) (ah:ps.toList.map (·.1)=List.range n) (ab:n*P.cellsOf e≤16777216) (ai:W5 P e=true) {base:Nat} (hb:Xl U base) (hd:QY nt o.dst=true)
  {ce:Zf} (hv:buildT hp base (P.cellsOf e) ns (evL sl ys)=some ce):ZdZ P nt F A I Γ U sl hp a w o base ce:=by
 obtain⟨i,z,hi,hz,ap,af,aa,ag⟩:=Vj ai;have hr:∀ {ps:List (Nat×Operand)} {ys:List Opd},QJ (fun q:Nat×Operand=>ZZ q.2) ps=some ys→Zz (Rep Γ w I) (evL sl ys) (ps.map fun x=>a.eval x.2):=by
  intro ps
  induction ps with
  | nil=>intro ys hy;simp only[QJ] at hy;cases hy;exact trivial
  | cons p ps ih=>
   intro ys hy;simp only[QJ] at hy;obtain⟨y,h1,hy⟩:=Za hy;obtain⟨aq,h2,hy⟩:=Za hy;cases hy;exact⟨h.slOK.ev h1,ih h2⟩
 have ad:=hr am;have hn:n=ps.toList.length:=by have:=congrArg List.length ah;simpa using this.symm
 unfold buildT at hv;split at hv
 ·rename_i aj;obtain⟨q,h1,hv⟩:=Za hv;cases hv;obtain⟨B,k1,k2,k3,k4,k5,k6⟩:=Zkz h ad h1;obtain⟨cells,h2,h3,h4⟩:=Zo1 (w:=w) (a:=a) ho he ah ab ai k4;have an:0<n:=by
   have:=ad.length;simp only[KG] at this;rw[← hn] at this;rcases LC n with h0 | h0
   ·rw[h0] at this;rw[Kt this] at aj;cases aj
   ·exact h0
  refine⟨_,_,.inl h2,?_⟩;rw[Xx];have ak : (w.alloc (.cells cells e)).heap[w.heap.size]?=some (.cells cells e (0,0)):=heap_alloc_new w _;have ae:∀ k,k<w.heap.size→(w.alloc (.cells cells e)).heap[k]?=w.heap[k]?:=fun k hk=>Yt w _ k hk;have al:∀ b∈B,b<w.heap.size:=fun b hb=>by
   obtain⟨id,_,o,hl,ao⟩:=k3 b hb;exact h.blk_lt hl ao
  refine h.newTree hb (w':=w.alloc (.cells cells e)) (by simp) rfl rfl rfl (fun k hk _=>ae k hk) (.inl (Kr _)) (fun hi=>absurd (h.bound _ hi) o_) (h.fresh _ (Kr _)) (by rw[k5,hn,KG]) an ak (Kr _)
   (by rw[aa] at ab;have:=Nat.le_mul_of_pos_right n af;simp only[maxLen];omega) h3 o_ (k6 _ _ 0 (fun b hb=>ae b (al b hb)) fun j u hu=>?_) (Lo.2 ⟨fun hm=>absurd (al _ hm) o_,k1⟩) k2 k3 hd
  rw[cell_of_row _ _ _ _ _ _ ak];simpa using h4 j u hu
 ·cases hv
theorem ZEe (h:Sim nt F A I Γ U sl hp a w) {o:Oper} {x:Operand} {y:Opd} {s n:Nat} (ho:o.op=.assign x) (hc:ZZ x=some y) {base:Nat} (hb:Xl U base) (hd:QY nt o.dst=true) {ce:Zf}
  (hv:asgT base s n (evO sl y)=some ce):ZdZ P nt F A I Γ U sl hp a w o base ce:=by
 unfold asgT at hv;split at hv
 ·rename_i hy;cases hv;have h1:=h.slOK.ev hc;rw[hy] at h1;obtain⟨ad,h2⟩:=h1;refine⟨a.eval x,w,.inl (by simp[execOp,ho]),?_⟩;rw[Xx,h2];refine h.takes hb (w':=w) (dels:=[]) (r:=.row ad 0 0 s) (Kr _) rfl rfl rfl (fun k _=>.inl rfl) ?_ ⟨_,_,_,_,ZJ _ _ _,rfl⟩ hd fun b aa=>?_
  ·exact⟨_,_,_,ZJ _ _ _,⟨rfl,.inl ⟨rfl,rfl,rfl⟩⟩,trivial⟩
  ·exact(aa.nil (by rw[ZJ];cases ad<;>simp[ZA])).elim
 ·cases hv
end
end Go.Abs
namespace Go.Abs
open Go
section
variable {P:Program} {nt:Nat} {U:Nat→Prop} {F A I:Nat→Prop} {Γ:Gh} {sl:Sl} {hp:Hp} {a:Act} {w:World}
structure Part (Γ:Gh) (w:World) (I F:Nat→Prop) (hp:Hp) (ids:List Nat) (ns sz:Nat) (xs:List D) (B:List Nat) (os:List Value) (ad:Option Addr) (n c:Nat):Prop where
 len:n=xs.length
 cells:os.length=xs.length*sz
 one:∀ v∈os,v.oneCell'=true
 at_:(n=0∧c=0)∨∃ g cur e,ad=some ⟨g,0,none⟩∧0<c∧w.heap[g]?=some (.cells cur e (0,0))∧n≤c∧c≤maxLen∧cur.size=c*sz∧0<sz∧¬I g∧F g∧Qz w g 0 os∧g∉B∧∃ id∈ids,∃ o,lkp hp id=some o∧Blk Γ w id o g
 tre:∀ (w' : World) (g' o' : Nat),(∀ b∈B,w'.heap[b]?=w.heap[b]?)→Qz w' g' o' os→Z1 w' ns B g' sz xs o'
 nd:B.Nodup
 own:∀ b∈B,¬I b∧F b
 blk:∀ b∈B,∃ id∈ids,∃ o,lkp hp id=some o∧Blk Γ w id o b
theorem ZwG {ids:List Nat} {ns sz:Nat} {ad:Option Addr}:Part Γ w I F hp ids ns sz [] [] [] ad 0 0:=
 ⟨rfl,by simp,fun v hv=>by simp at hv,.inl ⟨rfl,rfl⟩,fun w' g' o' _ _=>by simp[Z1],LA,fun b hb=>by simp at hb,fun b hb=>by simp at hb⟩
theorem ZtX (h:Sim nt F A I Γ U sl hp a w) {id sz ns:Nat} {xs:List D} (hl:lkp hp id=some (.tree sz ns xs none)) {ad:Option Addr} {n c:Nat} (hg:Γ id=some (.row ad n c sz)):∃ B os,Part Γ w I F hp [id] ns sz xs B os ad n c:=by
 obtain⟨ag,n',c',ae,⟨hn,h3⟩,_⟩:=h.objs id _ hl;rw[hg] at ae;cases ae;rcases h3 with ⟨h3,h4,_⟩ | ⟨g,cur,e,B,rfl,hc,hw,h4,h5,h6,aa,h8,h9,ab⟩
 ·subst h3 h4;have hx:xs=[]:=Kt hn.symm;subst hx;exact⟨[],[],ZwG⟩
 ·obtain⟨os,k1,k2,k3,k4⟩:=Zqv h8;have af:ZA (Γ id)=some g:=by rw[hg];simp[ZA,KK hc]
  obtain⟨n1,n2⟩:=Lo.1 h9;exact⟨B,os,hn,k1,k3,.inr ⟨g,cur,e,rfl,hc,hw,h4,h5,h6,aa,(ab g (by simp)).1,(ab g (by simp)).2,k2,n1,id,by simp,_,hl,.inl af⟩,k4,n2,fun b hb=>ab b (by simp[hb]),fun b hb=>⟨id,by simp,_,hl,.inr (.inl ⟨g,B,af,h8,hb⟩)⟩⟩
theorem ZCL {ids:List Nat} {ns sz:Nat} {xs:List D} {B:List Nat} {os:List Value} {ad:Option Addr} {n c:Nat} (hp' : Part Γ w I F hp ids ns sz xs B os ad n c) {u e:TypeId} (hu:P.underlying u=some (.slice e)):Src P w u sz (.slice ad n c) xs.length os:=by
 have hn:=hp'.len;have aa:n=0∨∃ b o,ad=some ⟨b,o,none⟩∧Qz w b o os:=by
  rcases hp'.at_ with h | ⟨g,_,_,h,_,_,_,_,_,_,_,_,h2,_⟩
  ·exact .inl h.1
  ·exact .inr ⟨g,0,h,h2⟩
 subst hn;exact⟨⟨_,hu,fun k=>by simp⟩,by simp[Builtin.lenOf],Y9 hp'.cells aa,Y9 hp'.cells (aa.imp id fun ⟨b,o,h1,h2⟩=>⟨b,o,h1,h2.drew⟩),hp'.one,hp'.cells⟩
theorem ZtY (h:Sim nt F A I Γ U sl hp a w) {base:Nat} (hb:Xl U base) {t u ty e:TypeId} {i:TypeInfo} {z:Value} (ht:P.underlying t=some (.slice e)) (hi:P.info? e=some i) (hz:i.zero=some z) (bc:z.cells.size=i.size) (aw:0<i.size)
  {dst:Option Nat} (hd:QY nt dst=true) (hu:P.underlying u=some (.slice e)) {aa ae:List Nat} {ns:Nat} {xs ys:List D} {B1 B2:List Nat} {os cs:List Value} {ad a6:Option Addr} {n c n2 c2:Nat}
  (hx:Part Γ w I F hp aa ns i.size xs B1 os ad n c) (hy:Part Γ w I F hp ae ns i.size ys B2 cs a6 n2 c2) (ax:∀ k∈aa,k∉ae)
  (h1:(n+ys.length)*i.bytes≤ZM) (h2:n+ys.length≤ZM) :
  ∃ v' w',(Builtin.append_ #[t,u] ty #[.slice ad n c,.slice a6 n2 c2]).run P w=.ok v' w'∧VI nt F A I Γ w (U8 U base) (Zs sl dst (.own base)) (Zi (Qe hp (aa++ae)) [(base,.tree i.size ns (xs++ys) none)]) (a.put dst v') w':=by
 simp only[ZM] at h1 h2;have hs:=ZCL (P:=P) hy hu;have aj:=hx.cells;have a7:=hy.cells;have hn:=hx.len;have ag:∀ (k k' : Nat) (o o' : Zm) (b:Nat),k∈aa→k'∈ae→lkp hp k=some o→lkp hp k'=some o'→Blk Γ w k o b→Blk Γ w k' o' b→False:=fun k k' o o' b hk ak hl al hb am=>ax k hk (h.inj k k' o o' b hl al hb am ▸ ak);have an:∀ b∈B1++B2,∃ id∈aa++ae,∃ o,lkp hp id=some o∧Blk Γ w id o b:=by
  intro b hb;rcases Kj.1 hb with hb | hb
  ·obtain⟨k,hk,hh⟩:=hx.blk b hb;exact⟨k,by simp[hk],hh⟩
  ·obtain⟨k,hk,hh⟩:=hy.blk b hb;exact⟨k,by simp[hk],hh⟩
 have a8:∀ b∈B1++B2,b<w.heap.size:=fun b hb=>by
  obtain⟨k,_,o,hl,ay⟩:=an b hb;exact h.blk_lt hl ay
 have bd:(B1++B2).Nodup:=LX.2 ⟨hx.nd,hy.nd,fun b hb b' am e=>by
  subst e;obtain⟨k,hk,o,hl,ay⟩:=hx.blk b hb;obtain⟨k',ak,o',al,ah⟩:=hy.blk b am;exact ag k k' o o' b hk ak hl al ay ah⟩
 have az:∀ b∈B1++B2,¬I b∧F b:=fun b hb=>(Kj.1 hb).elim (hx.own b) (hy.own b);have a9:∀ (w' : World) (g c' : Nat) (cur:Array Value) (e' : TypeId),w.heap.size≤w'.heap.size→w'.os=w.os→w'.tape=w.tape→w'.output=w.output →
   (∀ k,k<w.heap.size→k≠g→w'.heap[k]?=w.heap[k]?)→(w.heap.size≤g∨(g∉B1∧∃ id∈aa,∃ o,lkp hp id=some o∧Blk Γ w id o g))→¬I g→F g →
   w'.heap[g]?=some (.cells cur e' (0,0))→0<c'→n+ys.length≤c'→c'≤maxLen→cur.size=c' * i.size→Qz w' g 0 (os++cs) →
   VI nt F A I Γ w (U8 U base) (Zs sl dst (.own base)) (Zi (Qe hp (aa++ae)) [(base,.tree i.size ns (xs++ys) none)]) (a.put dst (.slice (some ⟨g,0,none⟩) (n+ys.length) c')) w':=by
  intro w' g c' cur e' be bf ao a0 ap a1 a2 a3 ab a4 a' aq a5 ai;have ar:g∉B1++B2:=by
   intro hm;rcases a1 with a1 | ⟨bg,k,hk,o,hl,bh⟩
   ·have:=a8 g hm;omega
   ·rcases Kj.1 hm with hm | hm
    ·exact bg hm
    ·obtain⟨k',ak,o',al,ah⟩:=hy.blk g hm;exact ag k k' o o' g hk ak hl al bh ah
  have same:∀ b∈B1++B2,w'.heap[b]?=w.heap[b]?:=fun b hb=>ap b (a8 b hb) fun e=>ar (e ▸ hb);have hT:Z1 w' ns (B1++B2) g i.size (xs++ys) 0:=by
   refine Z1.append (hx.tre w' g 0 (fun b hb=>same b (by simp[hb])) fun j u hu=>ai j u ?_) (hy.tre w' g _ (fun b hb=>same b (by simp[hb])) fun j u hu=>?_)
   ·rw[KN (Kc.1 hu).1];exact hu
   ·have:=ai (os.length+j) u (by rw[KL o_,Lv];exact hu)
    rwa [← KW,aj] at this
  refine h.newTree hb be bf ao a0 ap (a1.imp id fun ⟨_,k,hk,hh⟩=>⟨k,by simp[hk],hh⟩) a2 a3 (by simp[hn]) a4 ab a' aq a5 aw hT (Lo.2 ⟨ar,bd⟩) az an hd
 by_cases af:n+ys.length≤c
 ·rcases hx.at_ with ⟨e1,e2⟩ | ⟨g,cur,e',rfl,a4,hw,a',aq,a5,_,a2,a3,ai,bi,au⟩
  ·subst e1 e2;have bj:ys=[]:=Kt o_;have bk:xs=[]:=Kt o_;subst bj bk;refine⟨_,_,ZoX ht hi hs (Kr 0),?_⟩;refine h.takes hb (w':=w) (r:=.row ad 0 0 i.size) (Kr _) rfl rfl rfl (fun k _=>.inl rfl) ?_ ⟨_,_,_,_,ZJ _ _ _,rfl⟩ hd fun b am=>?_
   ·exact⟨_,_,_,ZJ _ _ _,⟨rfl,.inl ⟨rfl,rfl,rfl⟩⟩,trivial⟩
   exact(am.nil (by rw[ZJ];cases ad<;>simp[ZA])).elim
  ·have bl:n*i.size+cs.length≤cur.size:=by rw[a7,a5,← KU];exact KQ _ af
   have hr:=Zdv (q:=0) (ty:=ty) ht hi hs hw af o_;rw[K0] at hr;refine⟨_,_,hr,?_⟩;have ab:=setRow_heap w g cur (cur.toList.take (n*i.size)++cs++cur.toList.drop (n*i.size+cs.length)).toArray e' _ hw;refine a9 _ g c _ e' (by rw[size_setRow];exact Kr _) rfl rfl rfl (fun k _ bm=>setRow_other w g k _ bm) (.inr ⟨bi,au⟩) a2 a3 ab a4 af aq ?_ ?_
   ·simp only[Kaa,Kq,LF,Lr,Le];omega
   ·have av:cur.toList.take (n*i.size)=os:=by
     refine LI fun j=>?_;rw[Lq];split
     ·rename_i hj;obtain⟨u',ba⟩:∃ u',os[j]?=some u':=⟨_,Kw (by rw[aj,← hn];exact hj)⟩
      have:=ai j u' ba;rw[cell_of_row w g _ cur e' _ hw] at this;rw[ba];simpa using this
     ·rw[K8 (by rw[aj,← hn];omega)]
    refine VJ ab (ys:=cur.toList.drop (n*i.size+cs.length)) ?_;rw[av]
 ·have ai:n=0∨∃ b o,ad=some ⟨b,o,none⟩∧Qz w b o os:=by
   rcases hx.at_ with h' | ⟨g,_,_,h',_,_,_,_,_,_,_,_,h2,_⟩
   ·exact .inl h'.1
   ·exact .inr ⟨g,0,h',h2⟩
  have ho:=Y9 (P:=P) (w:=w.drew) (c:=c) (by rw[aj,hn]) (ai.imp id fun ⟨b,o,h1,h2⟩=>⟨b,o,h1,h2.drew⟩);have hr:=ZoY (ty:=ty) ht hi hz hs ho o_ o_ (growslice_fits o_ h1);refine⟨_,_,hr,?_⟩;have bn:=grownCap_ge w (n+ys.length) c e;have aq:grownCap w (n+ys.length) c e≤maxLen:=grownCap_le_maxLen w (n+ys.length) c e (by simp only[maxLen];omega);have bb : (w.drew.alloc (.cells ((os++cs).toArray++Builtin.zeroCells z.cells (grownCap w (n+ys.length) c e-(n+ys.length))) e)).heap[w.heap.size]? =
    some (.cells ((os++cs).toArray++Builtin.zeroCells z.cells (grownCap w (n+ys.length) c e-(n+ys.length))) e (0,0)):=heap_alloc_new w.drew _
  refine a9 _ w.heap.size _ _ e (by simp) rfl rfl rfl (fun k hk _=>heap_alloc_old w.drew _ k hk) (.inl (Kr _)) (fun hi=>absurd (h.bound _ hi) o_) (h.fresh _ (Kr _)) bb o_ bn aq ?_ ?_
  ·simp only[Array.size_append,Kaa,Kq,size_zeroCells,bc,aj,a7,← hn,← KU];congr 1
   omega
  ·refine VJ bb (ys:=(Builtin.zeroCells z.cells (grownCap w (n+ys.length) c e-(n+ys.length))).toList) ?_;simp
theorem ZyG {l:Hp} {t t' : Nat} (h:t≠t'):lkp (del l t) t'=lkp l t':=by rw[ZfX,Kd h]
theorem Ub:∀ (ds:List Nat) (l:Hp) (id:Nat),id∉ds→lkp (Qe l ds) id=lkp l id
 | [],l,id,_=>rfl
 | d :: ds,l,id,h=>by
  simp only[Ke,not_or] at h;simp only[Qe];rw[Ub ds _ id h.2,ZyG (fun e=>h.1 e.symm)]
def isOut:Zm→Bool
 | .tree _ _ _ (some _)=>true
 | _=>false
def ZAk (Γ:Gh) (w:World) (hp:Hp) (I:Nat→Prop) (ids:List Nat) (b:Nat):Prop:=I b∨∃ id∈ids,∃ o,lkp hp id=some o∧isOut o=false∧ZgZ Γ w id o b
theorem UI (hp:Hp):∀ (ids:List Nat) (k:Nat),lkp (meltIn hp ids) k=(lkp hp k).map fun o=>if ids.contains k then ZlS o else o
 | [],k=>by simp[meltIn]
 | i :: r,k=>by
  simp only[meltIn];have ih:=UI hp r k;by_cases e:i=k
  ·subst e;cases hl:lkp hp i with
   | none=>simp only[ih,hl];rfl
   | some o=>simp only[Qn,Km,Ld];simp
  ·have hc:(i :: r).contains k=r.contains k:=by simp;intro h;exact absurd h.symm e
   rw[hc,← ih];cases lkp hp i with
   | none=>rfl
   | some o=>simp only[Qn];rw[Kd e]
theorem Sim.meltIn (h:Sim nt F A I Γ U sl hp a w) (ids:List Nat):Sim nt F A (ZAk Γ w hp I ids) Γ U sl (meltIn hp ids) a w:=by
 have aa:ZP I (ZAk Γ w hp I ids) w w:=⟨fun _ h=>.inl h,fun _ _=>rfl⟩
 have ae:∀ k o,lkp (Go.Abs.meltIn hp ids) k=some o→∃ o0,lkp hp k=some o0∧o=if ids.contains k then ZlS o0 else o0:=by
  intro k o hk;rw[UI] at hk;cases hl:lkp hp k with
  | none=>rw[hl] at hk;cases hk
  | some o0=>rw[hl] at hk;simp only[Ld,Option.some.injEq] at hk;exact⟨o0,rfl,hk.symm⟩
 have bk:∀ k o0 b,Blk Γ w k (if ids.contains k then ZlS o0 else o0) b→Blk Γ w k o0 b:=by
  intro k o0 b hb;split at hb
  ·cases o0 with
   | box cs=>exact hb
   | row sz xs ex fz=>exact hb
   | gone=>exact hb
   | tree sz ns xs lk=>
    cases lk with
    | none=>exact .inl hb.row
    | some q=>exact hb
  ·exact hb
 refine { nt:=h.nt,dfr:=h.dfr,slots:=fun t=>(h.slots t).mono (Qj.refl Γ) aa,objs:=?_,inj:=?_,bound:=?_,fresh:=h.fresh,own:=h.own,names:=h.names,glob:=h.glob.mono aa }
 ·intro k o hk;obtain⟨o0,hl,rfl⟩:=ae k o hk;have ho:=h.objs k o0 hl;have plain:(∀ b,ZgZ Γ w k o0 b→k∉ids)→Y3 Γ w (ZAk Γ w hp I ids) F A k o0:=fun hn=>ho.mono (Qj.refl Γ) aa fun b hb=>⟨rfl,fun hi=>by
   rcases hi with hi | ⟨id,aj,o',ab,_,hi⟩
   ·exact hi
   ·have:=h.inj k id o0 o' b hl ab hb (.inr (.inl hi));subst this;rw[hl] at ab;cases ab;exact absurd aj (hn b hi)⟩
  split
  ·rename_i af;have ag : k∈ids:=by simpa using af
   cases o0 with
   | box cs=>exact plain fun b hb=>False.elim hb
   | row sz xs ex fz=>exact plain fun b hb=>False.elim hb
   | gone=>exact ho
   | tree sz ns xs lk=>
    cases lk with
    | some q=>
     refine ho.mono (Qj.refl Γ) aa fun b hb=>⟨rfl,fun hi=>?_⟩
     rcases hi with hi | ⟨id,aj,o',ab,am,hi⟩
     ·exact hi
     ·have:=h.inj k id _ o' b hl ab hb (.inr (.inl hi));subst this;rw[hl] at ab;cases ab;cases am
    | none=>
    obtain⟨ad,n,c,h1,⟨h2,h3⟩,_⟩:=ho;refine⟨ad,n,c,h1,h2,?_⟩;rcases h3 with h3 | ⟨g,cur,e,B,rfl,hc,hw,h4,h5,h6,ah,h8,h9,ak⟩
    ·exact .inl ⟨h3.1,h3.2.1⟩
    ·have ai:ZA (Γ k)=some g:=by rw[h1];simp[ZA,KK hc]
     refine .inr ⟨g,0,cur,e,rfl,hc,hw,h4,h5,⟨o_,fun _=>rfl⟩,ah,?_,(ak g (by simp)).2,?_⟩
     ·simp only[Ka,Kn]
      rintro (hi | ⟨id,_,o',ab,_,hi⟩)
      ·exact(ak g (by simp)).1 hi
      ·have:=h.inj k id _ o' g hl ab (.inl ai) (.inr (.inl hi));subst this;rw[hl] at ab;cases ab;obtain⟨g2,B2,al,an,ao⟩:=hi;rw[ai] at al;cases al;cases Z1.uniq h8 an;exact(Lo.1 h9).1 ao
     ·simp only[Km];exact h8.rep fun b hb=>
       have hi:ZgZ Γ w k (.tree sz ns xs none) b:=⟨g,B,ai,h8,hb⟩
       ⟨.inr ⟨k,ag,_,hl,rfl,hi⟩,h.own b (Zl7 (h.objs k _ hl) (.inr (.inl hi)))⟩
  ·rename_i af;exact plain fun _ _ hi=>af (by simpa using hi)
 ·intro i j o o' b hi hj ap aq;obtain⟨o0,hl,rfl⟩:=ae i o hi;obtain⟨o1,ab,rfl⟩:=ae j o' hj;exact h.inj i j o0 o1 b hl ab (bk i o0 b ap) (bk j o1 b aq)
 ·rintro b (hb | ⟨id,_,o,hl,_,hi⟩)
  ·exact h.bound b hb
  ·exact h.blk_lt hl (.inr (.inl hi))
theorem ZyH (h:Sim nt F A I Γ U sl hp a w) {o:Oper} {t u e:TypeId} {s x:Operand} {s' x' : Opd} {str flat:Bool}
  (ho:o.op=.call { callee:=.builtin .append,args := #[s,x],argTypes := #[t,u] }) (he:Yp P t=some e) (aa:ZoS P e u=some str) (ae:W5 P e=true) (hs:ZZ s=some s') (hx:ZZ x=some x')
  {base:Nat} (hb:Xl U base) (hd:QY nt o.dst=true) {ms:List Nat} (ah:∀ k∈ms,∃ o,lkp hp k=some o) {ef:Eff} (hv:Vu hp (P.cellsOf e) (P.bytesOf e) str flat base (evO sl s') (evO sl x') ms=some ef):ZdZ P nt F A I Γ U sl hp a w o base { eff:=ef,gone:=[] }:=by
 cases ms with
 | nil=>exact ZuE h ho he aa ae hs hx hb hd (flat:=flat) (by simp only[Vu] at hv;rw[hv];rfl)
 | cons i r=>
  simp only[Vu] at hv;split at hv
  ·cases hv
  ·obtain⟨e0,h1,hv⟩:=Za hv;cases hv;obtain⟨u',w',hg,I',Γ',b1,b2,b3,b4,b5⟩:=ZuE (h.meltIn (i :: r)) ho he aa ae hs hx hb hd (flat:=flat) (ce := { eff:=e0,gone:=[] }) (by rw[h1];rfl);refine⟨u',w',hg,I',Γ',b1,⟨fun b hb=>b2.sub b (.inl hb),fun b hb=>b2.blk b (.inl hb)⟩,fun b hb=>?_,b4,b5.sub fun k o hk=>?_⟩
   ·rcases b3 b hb with (h6 | ⟨id,_,o,hl,_,hi⟩) | h6
    ·exact .inl h6
    ·exact .inr (Zl7 (h.objs id o hl) (.inr (.inl hi)))
    ·exact .inr h6
   ·have ag : lkp (Zi (Zi (Qe (Qq e0.frz hp) (e0.dels++(i :: r))) e0.sets) e0.adds) k=some o:=hk;show lkp (Zi (Zi (Qe (Qq e0.frz (meltIn hp (i :: r))) e0.dels) e0.sets) e0.adds) k=some o;have af:∀ (A:Hp) (ab ad:Hp),(∀ o,lkp ab k=some o→lkp ad k=some o)→∀ o,lkp (Zi ab A) k=some o→lkp (Zi ad A) k=some o:=by
     intro A
     induction A with
     | nil=>intro _ _ h;exact h
     | cons q r ih=>
      intro ab ad h;obtain⟨k',o'⟩:=q;simp only[Zi];refine ih _ _ fun o ho=>?_;rw[Qn] at ho ⊢;split
      ·rename_i e;rw[Kg e] at ho;exact ho
      ·rename_i e;rw[Kd e] at ho;exact h o ho
    refine af _ _ _ (fun o ho=>af _ _ _ (fun o ho=>?_) o ho) o ag;obtain⟨h2,h3⟩:=Ws _ _ _ _ ho;simp only[Kj,not_or] at h3;rw[Ub _ _ k h3.1];rw[Ql] at h2 ⊢;rw[UI];have:(i :: r).contains k=false:=by simpa using h3.2
    rw[this];simpa using h2
theorem ZAl (h:Sim nt F A I Γ U sl hp a w) {o:Oper} {t u e:TypeId} {s x:Operand} {s' x' : Opd}
  (ho:o.op=.call { callee:=.builtin .append,args := #[s,x],argTypes := #[t,u] }) (he:Yp P t=some e) (ak:ZoS P e u=some false) (aw:W5 P e=true) (hs:ZZ s=some s') (hx:ZZ x=some x')
  {base:Nat} (hb:Xl U base) (hd:QY nt o.dst=true) {ce:Zf} (hv:appT hp (P.cellsOf e) (P.bytesOf e) base (evO sl s') (evO sl x')=some ce):ZdZ P nt F A I Γ U sl hp a w o base ce:=by
 obtain⟨i,z,hi,hz,ap,af,ab,ae⟩:=Vj aw;have ht:=Q7 he;have aq:∀ {ef:Eff} {v' : Value} {w' : World},(Builtin.append_ #[t,u] o.type #[a.eval s,a.eval x]).run P w=.ok v' w' →
   VI nt F A I Γ w (U8 U base) (Zf.on { eff:=ef,gone:=[] } o.dst sl hp).1 (Zf.on { eff:=ef,gone:=[] } o.dst sl hp).2 (a.put o.dst v') w'→ZdZ P nt F A I Γ U sl hp a w o base { eff:=ef,gone:=[] }:=by
  intro ef v' w' hr hp';refine⟨v',w',.inl ?_,hp'⟩;simp only[execOp,ho,resolve,invoke,builtin,Sem.run_bind,Sem.run_pure,Result.andThen_ok,List.map_toArray,Kh,Kp,hr]
 unfold appT Zhk at hv;obtain⟨ef,ar,ax⟩:=Za hv;clear hv;cases ax;obtain⟨q,hq,hv⟩:=Za ar;clear ar;have tree:∀ {id:Nat} {q:Nat×Nat×List D},Znz (lkp hp id)=some q→lkp hp id=some (.tree q.1 q.2.1 q.2.2 none):=by
  intro id q hq;unfold Znz at hq;split at hq
  ·rename_i hl;cases hq;exact hl
  ·cases hq
 split at hv
 ·rename_i c1;have hu:P.underlying u=some (.slice e):=by
   rcases ZrH ak with ⟨h2,_⟩ | ⟨_,h2⟩
   ·cases h2
   ·exact h2
  unfold Zds at hq;split at hq
  ·rename_i ay az;obtain⟨q2,h2,hq⟩:=Za hq;cases hq;have aj:=tree h2;obtain⟨s2,n2,ys⟩:=q2;dsimp only at c1 hv aj;have ag:=h.slOK.ev hx;rw[az] at ag;obtain⟨a1,m2,k2,s3,al,ag⟩:=ag;obtain⟨_,_,_,ah,_⟩:=h.objs ay _ aj;rw[al] at ah;cases ah;subst c1;rw[ab] at aj al hv;rw[ae] at hv;obtain⟨B2,cs,au⟩:=ZtX h aj al;have aa:=h.slOK.ev hs;unfold Zbv at hv;split at hv
   ·rename_i am;rw[am] at aa;obtain⟨ad,aa⟩:=aa;split at hv
    ·rename_i hc;cases hv;obtain⟨v',w',h3,h4⟩:=ZtY (ty:=o.type) h hb ht hi hz ap af hd hu (ZwG (ids:=[]) (ad:=ad)) au (fun k hk=>by simp at hk) (by simpa using hc.1) (by simpa using hc.2);exact aq (by rw[aa,ag];exact h3) (by rw[Xx];exact h4)
    ·cases hv
   ·rename_i a0 am;rw[am] at aa;obtain⟨ad,n,c,s4,av,aa⟩:=aa;obtain⟨q1,h5,hw⟩:=Za hv;clear hv;have hv:=hw;clear hw;split at hv
    ·rename_i hc;obtain⟨c2,c3,c4,c5,c6⟩:=hc;cases hv;have an:=tree h5;obtain⟨s5,n5,xs⟩:=q1;dsimp only at c2 c3 c5 c6 an;obtain⟨_,_,_,ai,a2,_⟩:=h.objs a0 _ an;rw[av] at ai;cases ai;subst c2 c3;obtain⟨B1,os,ao⟩:=ZtX h an av;obtain⟨v',w',h3,h4⟩:=ZtY (ty:=o.type) h hb ht hi hz ap af hd hu ao au (fun k hk=>by simp at hk;subst hk;simpa using c4) (by rw[ao.len];exact c5) (by rw[ao.len];exact c6);exact aq (by rw[aa,ag];exact h3) (by rw[Xx];exact h4)
    ·cases hv
   ·cases hv
  ·cases hq
 ·cases hv
theorem ZyI (h:Sim nt F A I Γ U sl hp a w) {o:Oper} {t u e:TypeId} {s x:Operand} {s' x' : Opd} {str flat:Bool}
  (ho:o.op=.call { callee:=.builtin .append,args := #[s,x],argTypes := #[t,u] }) (he:Yp P t=some e) (aa:ZoS P e u=some str) (ad:W5 P e=true) (hs:ZZ s=some s') (hx:ZZ x=some x')
  {base:Nat} (hb:Xl U base) (hd:QY nt o.dst=true) {ce:Zf} (hv:Zxl hp (P.cellsOf e) (P.bytesOf e) str flat base (evO sl s') (evO sl x')=some ce):ZdZ P nt F A I Γ U sl hp a w o base ce:=by
 have ae:∀ {k:Nat} (z:AV),k∈X7 hp z→∃ o,lkp hp k=some o:=by
  intro k z hz;unfold X7 at hz;split at hz
  ·split at hz
   ·rename_i id af;simp at hz;subst hz;cases hl:lkp hp k with
    | none=>rw[hl] at af;cases af
    | some o=>exact⟨o,rfl⟩
   ·simp at hz
  ·simp at hz
 have melt:∀ {ms:List Nat} {ce:Zf},(∀ k∈ms,∃ o,lkp hp k=some o)→Zhk (Vu hp (P.cellsOf e) (P.bytesOf e) str flat base (evO sl s') (evO sl x') ms)=some ce→ZdZ P nt F A I Γ U sl hp a w o base ce:=by
  intro ms ce hm hv;obtain⟨ef,ag,ah⟩:=Za hv;cases ah;exact ZyH h ho he aa ad hs hx hb hd hm ag
 unfold Zxl at hv;have kx:∀ k∈X7 hp (evO sl s'),∃ o,lkp hp k=some o:=fun k hk=>ae _ hk;have ky:∀ k∈X7 hp (evO sl x'),∃ o,lkp hp k=some o:=fun k hk=>ae _ hk;generalize X7 hp (evO sl s')=mx at hv kx;generalize X7 hp (evO sl x')=my at hv ky;cases mx with
 | nil=>exact melt ky hv
 | cons i r=>
  cases my with
  | nil=>exact melt kx hv
  | cons j t=>
   simp only[ZdT] at hv;split at hv
   ·cases hv
   ·rename_i hc;have ab:str=false:=by cases str<;>simp_all
    subst ab;exact ZAl h ho he aa ad hs hx hb hd hv
end
end Go.Abs
namespace Go.Abs
open Go
section
variable {P:Program} {w:World} {I:Nat→Prop}
def ZAm (u v:Value) (kd:Nat) (r:Bool):Prop:=
 (kd = 0 ∧ ∃ k a b, u = .int k a ∧ v = .int k b ∧ r = decide (a = b)) ∨ (kd = 1 ∧ ∃ a b, u = .bool a ∧ v = .bool b ∧ r = decide (a = b)) ∨
   (kd=2∧∃ a b:ByteArray,u=.string a∧v=.string b∧r=decide (a.data.toList=b.data.toList))
def Zvv (X Y:Array Value) (o kd:Nat) (r:Bool):Prop:=∃ u v,X[o]?=some u∧Y[o]?=some v∧ZAm u v kd r
theorem ZyJ:∀ {ks:List Nat} {cs ds:List D} {R:Bool} {xs ys:List Value},JZ ks cs ds=some R→Xf w I cs xs→Xf w I ds ys →
  ∃ rs:List Bool,rs.length=ks.length∧R=rs.all id∧∀ (o kd:Nat),ks[o]?=some kd→∃ u v r,xs[o]?=some u∧ys[o]?=some v∧rs[o]?=some r∧ZAm u v kd r:=by
 intro ks
 induction ks with
 | nil=>
  intro cs ds R xs ys h hx hy;cases cs with
  | nil=>
   cases ds with
   | nil=>simp only[JZ] at h;cases h;exact⟨[],rfl,rfl,fun o kd hk=>by simp at hk⟩
   | cons d ds=>simp[JZ] at h
  | cons c cs=>simp[JZ] at h
 | cons kd ks ih=>
  intro cs ds R xs ys h hx hy;cases cs with
  | nil=>simp[JZ] at h
  | cons c cs=>
  cases ds with
  | nil=>simp[JZ] at h
  | cons d ds=>
  simp only[Xf] at hx hy;obtain⟨u,ag,rfl,_,hu,ah⟩:=hx;obtain⟨v,ai,rfl,_,hv,aj⟩:=hy;have ab:∀ (r0:Bool) (R0:Bool),JZ ks cs ds=some R0→R=(r0&&R0)→ZAm u v kd r0 →
    ∃ rs:List Bool,rs.length=(kd :: ks).length∧R=rs.all id∧∀ (o aa : Nat),(kd :: ks)[o]?=some aa→∃ u' v' r,(u :: ag)[o]?=some u'∧(v :: ai)[o]?=some v'∧rs[o]?=some r∧ZAm u' v' aa r:=by
   intro r0 R0 h0 hR hc;obtain⟨rs,h1,h2,h3⟩:=ih h0 ah aj;refine⟨r0 :: rs,by simp[h1],by rw[hR,h2];simp,fun o aa ho=>?_⟩;cases o with
   | zero=>simp at ho;subst ho;exact⟨u,v,r0,by simp,by simp,by simp,hc⟩
   | succ o=>
    simp at ho;obtain⟨u',v',r,g1,g2,g3,g4⟩:=h3 o aa ho;exact⟨u',v',r,by simpa using g1,by simpa using g2,by simpa using g3,g4⟩
  unfold JZ at h;split at h
  ·rename_i h1 _ _;cases h1
  ·rename_i ad k a ae k' b af e1 e2 e3;cases e1;cases e2;cases e3;split at h
   ·rename_i hk;subst hk;obtain⟨R0,h0,h⟩:=Za h;cases h;simp only[ZQ] at hu hv;simp at hu hv;exact ab _ R0 h0 rfl (.inl ⟨rfl,k,a,b,hu,hv,rfl⟩)
   ·cases h
  ·rename_i ad a ae b af e1 e2 e3;cases e1;cases e2;cases e3;obtain⟨R0,h0,h⟩:=Za h;cases h;simp only[ZQ] at hu hv;simp at hu hv;exact ab _ R0 h0 rfl (.inr (.inl ⟨rfl,a,b,hu,hv,rfl⟩))
  ·rename_i ad a ae b af e1 e2 e3;cases e1;cases e2;cases e3;obtain⟨R0,h0,h⟩:=Za h;cases h;simp only[ZQ] at hu hv;obtain⟨ta,hu,rfl⟩:=hu;obtain⟨tb,hv,rfl⟩:=hv;simp at hu hv;exact ab _ R0 h0 rfl (.inr (.inr ⟨rfl,ta,tb,hu,hv,rfl⟩))
  ·cases h
def ZjK (P:Program) (t:TypeId) (off:Nat) (X:Array Value) (x:Value):Prop:=
 if X4 P t=true then x=.agg (X.extract off (off+P.cellsOf t)) else X[off]?=some x
theorem ZAn {t ft:TypeId} {off fo:Nat} {X:Array Value} {n:Nat} {ls:List (Nat×Nat)} {ab : Nat} (hl:Zce P n ft ab=some ls) (ad:fo+P.cellsOf ft≤P.cellsOf t)
  (hc:∀ p∈ls,∃ u,X[p.1]?=some u) (ho:ab=off+fo):∃ xf,(part ft (X.extract off (off+P.cellsOf t)) fo).run P w=.ok xf w∧ZjK P ft (off+fo) X xf:=by
 subst ho;cases n with
 | zero=>simp[Zce] at hl
 | succ n=>
 have aa:∀ kd,P.cellsOf ft=1→X4 P ft=false→ZeX P ft=some false→ls=[(off+fo,kd)]→∃ xf,(part ft (X.extract off (off+P.cellsOf t)) fo).run P w=.ok xf w∧ZjK P ft (off+fo) X xf:=by
  intro kd h1 h2 h3 h4;subst h4;obtain⟨u,hu⟩:=hc (off+fo,kd) (by simp)
  change X[off+fo]?=some u at hu
  refine⟨u,?_,by simp[ZjK,h2,hu]⟩;have ae:=(KP.1 hu).1;have e:(X.extract off (off+P.cellsOf t))[fo]?=some u:=by
   rw[Array.getElem?_extract,Kg o_,hu]
  simp[part,VF h3,e]
 unfold Zce at hl;split at hl
 ·rename_i k hk;split at hl
  ·cases hl;exact aa 0 (by assumption) (by simp[X4,hk]) (by simp[ZeX,hk]) rfl
  ·cases hl
 ·rename_i hk;split at hl
  ·cases hl;exact aa 1 (by assumption) (by simp[X4,hk]) (by simp[ZeX,hk]) rfl
  ·cases hl
 ·rename_i hk;split at hl
  ·cases hl;exact aa 2 (by assumption) (by simp[X4,hk]) (by simp[ZeX,hk]) rfl
  ·cases hl
 ·rename_i fs hk;have hg:ZeX P ft=some true:=by simp[ZeX,hk]
  obtain⟨i,hi⟩:=Zjb hg;refine⟨.agg ((X.extract off (off+P.cellsOf t)).extract fo (fo+P.cellsOf ft)),by simp[part,VF hg,Q8 hi w],?_⟩;simp only[ZjK,X4,hk,Km];congr 1
  rw[Array.extract_extract];congr 1
  omega
 ·cases hl
theorem Zqw {X Y:Array Value} {rs:List Bool}:∀ (m:Nat) {t:TypeId} {off:Nat} {ls:List (Nat×Nat)},Zce P m t off=some ls→(∀ p∈ls,Zvv X Y p.1 p.2 (rs.getD p.1 false)) →
  ∀ (d:Nat) (x y:Value),ZjK P t off X x→ZjK P t off Y y→(Op.equalIn (d+m) t x y).run P w=.ok (ls.all fun p=>rs.getD p.1 false) w
 | 0,t,off,ls,h,_,_,_,_,_,_=>by simp[Zce] at h
 | m+1,t,off,ls,h,hc,d,x,y,hx,hy=>by
  have aa:X4 P t=false→X[off]?=some x∧Y[off]?=some y:=fun hs=>by simp[ZjK,hs] at hx hy;exact⟨hx,hy⟩
  have h0:=h;unfold Zce at h;split at h
  ·rename_i k hk;split at h
   ·cases h;obtain⟨e1,e2⟩:=aa (by simp[X4,hk]);obtain⟨u,v,g1,g2,g3⟩:=hc (off,0) (by simp);simp only at g1 g2;rw[e1] at g1;rw[e2] at g2;cases g1;cases g2;rcases g3 with ⟨_,k',a,b,rfl,rfl,hr⟩ | ⟨h,_⟩ | ⟨h,_⟩
    ·rw[← KW,run_equalIn_int w (d+m) t k' k a b hk];simp only[LH,List.all_nil,Kae,hr];congr 1
    ·simp at h
    ·simp at h
   ·cases h
  ·rename_i hk;split at h
   ·cases h;obtain⟨e1,e2⟩:=aa (by simp[X4,hk]);obtain⟨u,v,g1,g2,g3⟩:=hc (off,1) (by simp);simp only at g1 g2;rw[e1] at g1;rw[e2] at g2;cases g1;cases g2;rcases g3 with ⟨h,_⟩ | ⟨_,a,b,rfl,rfl,hr⟩ | ⟨h,_⟩
    ·simp at h
    ·rw[← KW,run_equalIn_bool' w (d+m) t a b hk];simp only[LH,List.all_nil,Kae,hr];cases a<;>cases b<;>rfl
    ·simp at h
   ·cases h
  ·rename_i hk;split at h
   ·cases h;obtain⟨e1,e2⟩:=aa (by simp[X4,hk]);obtain⟨u,v,g1,g2,g3⟩:=hc (off,2) (by simp);simp only at g1 g2;rw[e1] at g1;rw[e2] at g2;cases g1;cases g2;rcases g3 with ⟨h,_⟩ | ⟨h,_⟩ | ⟨_,a,b,rfl,rfl,hr⟩
    ·simp at h
    ·simp at h
    ·rw[← KW,run_equalIn_string w (d+m) t a b hk];simp only[LH,List.all_nil,Kae,hr];rw[ByteArray.toList_eq,ByteArray.toList_eq];congr 1
     by_cases h:a.data.toList=b.data.toList
     ·simp[h]
     ·simp[h];exact fun e=>h (by rw[e])
   ·cases h
  ·rename_i fs hk;split at h
   ·cases h
   rename_i hp;obtain⟨lss,hm,h⟩:=Za h;cases h;have hs:X4 P t=true:=by simp[X4,hk]
   simp only[ZjK,hs,Km] at hx hy;subst hx;subst hy;have ad:P.fieldsOf t=fs:=by simp[Program.fieldsOf,hk]
   rw[← KW,run_equalIn_agg w (d+m) t _ _ (by rw[ad];exact hk) (by simpa using hp),ad];have ae:∀ (l:List Field) (lss:List (List (Nat×Nat))),QJ (fun f:Field=>if f.name = "_"∨P.cellsOf t<f.offset+P.cellsOf f.type then none else Zce P m f.type (off+f.offset)) l=some lss →
     (∀ p∈lss.flatten,Zvv X Y p.1 p.2 (rs.getD p.1 false))→(Op.eqFields (d+m) (X.extract off (off+P.cellsOf t)) (Y.extract off (off+P.cellsOf t)) l).run P w=.ok (lss.flatten.all fun p=>rs.getD p.1 false) w:=by
    intro l
    induction l with
    | nil=>intro lss hm _;simp only[QJ] at hm;cases hm;rfl
    | cons f l ihl=>
     intro lss hm hc;simp only[QJ] at hm;obtain⟨l1,g1,hm⟩:=Za hm;obtain⟨l2,g2,hm⟩:=Za hm;cases hm;split at g1
     ·cases g1
     rename_i hf;simp only[not_or,Nat.not_lt] at hf;have ab:∀ p∈l1,Zvv X Y p.1 p.2 (rs.getD p.1 false):=fun p hp=>hc p (by simp[hp]);obtain⟨xf,p1,p2⟩:=ZAn (w:=w) (t:=t) (off:=off) (fo:=f.offset) (X:=X) g1 hf.2 (fun p hp=>by obtain⟨u,v,e,_⟩:=ab p hp;exact⟨u,e⟩) rfl;obtain⟨yf,q1,q2⟩:=ZAn (w:=w) (t:=t) (off:=off) (fo:=f.offset) (X:=Y) g1 hf.2 (fun p hp=>by obtain⟨u,v,_,e,_⟩:=ab p hp;exact⟨v,e⟩) rfl;have e1:=Zqw m g1 ab d xf yf p2 q2;simp only[Op.eqFields,ne_eq,hf.1,not_false_eq_true,Km,Sem.run_bind,p1,q1,Result.andThen_ok,e1];cases hr:(l1.all fun p=>rs.getD p.1 false) with
     | false=>simp only[Kao,Km,Sem.run_pure,Lj,List.all_append,hr,Bool.false_and]
     | true=>
      simp only[Bool.not_true,Ka,Kn];rw[ihl l2 g2 (fun p hp=>hc p (by simp only[Lj,Kj];exact .inr hp))];simp only[Lj,List.all_append,hr,Kal]
   exact ae fs.toList lss hm hc
  ·cases h
theorem ZCM:∀ {ks:List Nat} {cs ds:List D} {R:Bool},JZ ks cs ds=some R→cs.length=ks.length∧ds.length=ks.length:=by
 intro ks
 induction ks with
 | nil=>
  intro cs ds R h;cases cs with
  | nil=>cases ds with
   | nil=>exact⟨rfl,rfl⟩
   | cons d ds=>simp[JZ] at h
  | cons c cs=>simp[JZ] at h
 | cons kd ks ih=>
  intro cs ds R h;cases cs with
  | nil=>simp[JZ] at h
  | cons c cs=>
  cases ds with
  | nil=>simp[JZ] at h
  | cons d ds=>
  unfold JZ at h;split at h
  ·rename_i h1 _ _;cases h1
  ·rename_i aa k a ab k' b ad e1 e2 e3;cases e1;cases e2;cases e3;split at h
   ·obtain⟨R0,h0,_⟩:=Za h;have:=ih h0;simp[this.1,this.2]
   ·cases h
  ·rename_i aa a ab b ad e1 e2 e3;cases e1;cases e2;cases e3;obtain⟨R0,h0,_⟩:=Za h;have:=ih h0;simp[this.1,this.2]
  ·rename_i aa a ab b ad e1 e2 e3;cases e1;cases e2;cases e3;obtain⟨R0,h0,_⟩:=Za h;have:=ih h0;simp[this.1,this.2]
  ·cases h
theorem ZtZ:∀ (rs:List Bool),((List.range rs.length).all fun i=>rs.getD i false)=rs.all id
 | []=>rfl
 | r :: rs=>by
  rw[Kl,List.range_succ_eq_map,LH,List.all_map];simp only[LH,id_eq,List.getD_cons_zero];congr 1
  rw[← ZtZ rs];rfl
theorem ZCN {t:TypeId} {ks:List Nat} (hk:Zxm P t=some ks) {cs ds:List D} {R:Bool} {X Y:Array Value} (h:JZ ks cs ds=some R) (hX:Xf w I cs X.toList) (hY:Xf w I ds Y.toList) :
  (Op.equalIn 10000 t (.agg X) (.agg Y)).run P w=.ok R w∧P.eqGuardType P.depth t=false:=by
 unfold Zxm at hk;obtain⟨ls,h1,hk⟩:=Za hk;split at hk
 ·rename_i hc;obtain⟨c1,c2,c3⟩:=hc;cases hk;obtain⟨rs,r1,r2,r3⟩:=ZyJ h hX hY;have ab:ls.length=P.cellsOf t:=by rw[← KG (f:=(·.1)),c1,List.length_range]
  have ad:(ls.map (·.2)).length=P.cellsOf t:=by rw[KG,ab]
  have ae:∀ (i:Nat) (p:Nat×Nat),ls[i]?=some p→p.1=i:=by
   intro i p hp;have h2:(ls.map (·.1))[i]?=some p.1:=by simp[hp]
   rw[c1] at h2;have ah:=(Kc.1 h2).1;rw[List.getElem?_range (by simpa using ah)] at h2;simpa using h2.symm
  have aa:∀ p∈ls,Zvv X Y p.1 p.2 (rs.getD p.1 false):=by
   intro p hp;obtain⟨i,hi⟩:=LG hp;have e:=ae i p hi;obtain⟨u,v,r,g1,g2,g3,g4⟩:=r3 i p.2 (by simp[hi]);refine⟨u,v,by rw[e];simpa using g1,by rw[e];simpa using g2,?_⟩;rw[e,List.getD_eq_getElem?_getD,g3];exact g4
  have ai:X.size=cs.length:=by have:=hX.length;simpa using this.symm
  have aj:Y.size=ds.length:=by have:=hY.length;simpa using this.symm
  have hb:=ZCM h;have ag:∀ Z:Array Value,Z.size=P.cellsOf t→ZjK P t 0 Z (.agg Z):=by
   intro Z hZ;simp only[ZjK,c2,Km,K0,← hZ];simp
  have af:=Zqw (P:=P) (w:=w) (rs:=rs) 5 h1 aa 9995 (.agg X) (.agg Y) (ag X (by rw[ai,hb.1,ad])) (ag Y (by rw[aj,hb.2,ad]));refine⟨?_,c3⟩;rw[af,r2,← ZtZ rs,r1,ad,← c1,List.all_map];rfl
 ·cases hk
theorem ZwH {o:Oper} {op:BinOp} {t aa : TypeId} {x y:Operand} {x' y' : Opd} {ks:List Nat} {neg:Bool} {Γ:Gh} {a:Act} {sl:Sl} (ho:o.op=.binOp op t x y aa) (ab:op=(if neg then .neq else .eql)) (hs:Zbt Γ w I sl a) (hx:ZZ x=some x') (hy:ZZ y=some y') (hk:Zxm P t=some ks) {ce:Zf}
  (hv:ZvR neg ks (evO sl x') (evO sl y')=some ce):Ys P Γ I o a w ce:=by
 have h1:=hs.ev hx;have h2:=hs.ev hy;unfold ZvR at hv;split at hv
 ·rename_i cs ds hc hd;rw[hc] at h1;rw[hd] at h2;obtain⟨R,h3,hv⟩:=Za hv;obtain⟨X,e1,r1⟩:=Zq2 h1;obtain⟨Y,e2,r2⟩:=Zq2 h2;obtain⟨g1,g2⟩:=ZCN hk h3 r1 r2;have hg:(eqGuard op t x y (.agg X) (.agg Y)).run P w=.ok () w:=run_eqGuard_agg w op t x y X Y g2;have hb:(binOp op t (.agg X) (.agg Y)).run P w=.ok (.bool (Zrd neg R)) w:=by
   subst ab;cases neg
   ·simp only[Ka,Kn,run_eql_struct,g1,Result.andThen_ok,Zrd]
   ·simp only[Km,run_neq_struct,g1,Result.andThen_ok,Zrd]
  exact⟨_,_,.inl (by simp[execOp,ho,e1,e2,hg,hb]),Qv hv,Qo.2 (ZbR _)⟩
 ·cases hv
end
end Go.Abs
namespace Go.Abs
open Go
theorem Zdl (hp:Hp):∀ ids:List Nat,(ZdR hp ids).length=ids.length
 | []=>rfl
 | _ :: ids=>congrArg (·+1) (Zdl hp ids)
theorem Zt0 {ids:List Nat} (h:ids.Nodup) {i j id:Nat} (hi:ids[i]?=some id) (hj:ids[j]?=some id):i=j:=
 (Zi2 h hi).symm.trans (Zi2 h hj)
theorem ZD:∀ (l:Hp) (hp:Hp) (id:Nat),(∀ o,(id,o)∉l)→lkp (Zi hp l) id=lkp hp id
 | [],hp,id,_=>rfl
 | (k,x) :: r,hp,id,h=>by
  simp only[Zi];rw[ZD r _ id fun o ho=>h o (KA _ ho),Qn,Kd];intro e;subst e;exact h x (Lm ..)
section
variable {P:Program} {nt:Nat} {U:Nat→Prop} {F A I:Nat→Prop} {Γ:Gh} {sl:Sl} {hp:Hp} {a:Act} {w:World}
theorem ZAo {Γ' : Gh} {w' : World} {I' : Nat→Prop} {g:Nat→Nat} (hk:ZP I I' w w'):∀ {xs:List AV} {vs:List Value},Zar Γ Γ' g (xs.flatMap Zy)→Zz (Rep Γ w I) xs vs→Zz (Rep Γ' w' I') (xs.map (ren g)) vs
 | [],[],_,_=>trivial
 | [],_ :: _,_,h=>h.elim
 | _ :: _,[],_,h=>h.elim
 | x :: xs,v :: vs,hg,h=>⟨Zp5 (fun id aa=>hg id (by simp only[KT,Kj];exact .inl aa)) hk h.1,ZAo hk (fun id aa=>hg id (by simp only[KT,Kj];exact .inr aa)) h.2⟩
theorem ZkA {ids:List Nat} (aa:∀ id∈ids,∃ o,lkp hp id=some o) {k:Nat} {o:Zm} (h:lkp (Wf 0 ((ZdR hp ids).map (ZaI ids))) k=some o) :
  ∃ id o0,ids[k]?=some id∧lkp hp id=some o0∧o=ZaI ids o0:=by
 rw[Ua] at h;simp only[Kaq,Km,Nat.sub_zero,La,Zqp,Option.map_map] at h;cases hk:ids[k]? with
 | none=>rw[hk] at h;cases h
 | some id=>
  rw[hk] at h;simp only[Ld,Option.some.injEq,Function.comp_apply] at h;obtain⟨o0,ab⟩:=aa id (Kb hk);rw[ab] at h;exact⟨id,o0,rfl,ab,h.symm⟩
theorem ZCO (h:Sim nt F A I Γ U sl hp a w) {ids ab:List Nat} (aj:ids.Nodup) (aa:∀ id∈ids,∃ o,lkp hp id=some o) (ad:¬ab.any ids.contains=true)
  {as1:List AV} {vs:List Value} (ak:Zz (Rep Γ w (ZhV Γ w hp I ab)) as1 vs) (ae:∀ id∈as1.flatMap Zy,id∈ids) :
  Pre (ZBh Γ w hp ids w.heap.size) (calA Γ w hp ids w.heap.size I A) (ZhV Γ w hp I ab) (Zhn ids Γ) ((ZdR hp ids).map (ZaI ids)) (as1.map (ren (V5 ids))) vs w where
 args:=ZAo (ZP.refl _ w) (Zho ae) ak
 objs:=fun k o hk=>by
  obtain⟨id,o0,h1,h2,rfl⟩:=ZkA aa hk;refine ZwD h1 (h.objs id o0 h2) (fun b hb=>.inl hb) (fun b hb=>.inr ⟨id,Kb h1,o0,h2,hb⟩) (fun b hb ha=>.inr ⟨hb,ha⟩) fun b hb ag=>?_;rcases ag with ag | ⟨af,ah,o',al,_,am⟩
  ·exact ag
  ·have:=h.inj id af o0 _ b h2 al hb am;subst this;exact absurd (LR.2 ⟨id,ah,by simpa using Kb h1⟩) ad
 inj:=fun i j o o' b hi hj an ao=>by
  obtain⟨id,o0,h1,h2,rfl⟩:=ZkA aa hi;obtain⟨af,o1,h3,h4,rfl⟩:=ZkA aa hj;have bk:∀ (k id:Nat) (o0:Zm),ids[k]?=some id→Blk (Zhn ids Γ) w k (ZaI ids o0) b→Blk Γ w id o0 b:=by
   intro k id o0 hk hb;rcases hb with hb | hb | hb
   ·rw[Vp hk] at hb;unfold ZaI at hb;rw[Znt,ZkJ] at hb;exact .inl hb
   ·cases o0 with
    | box cs=>exact False.elim hb
    | row sz xs ex fz=>exact False.elim hb
    | gone=>exact False.elim hb
    | tree sz ns xs lk=>
     obtain⟨g,p,h5,h6⟩:=hb;rw[Vp hk] at h5;rw[UY,UZ] at h6;exact .inr (.inl ⟨g,p,h5,h6⟩)
   ·cases o0 with
    | box cs=>exact .inr (.inr ((Buf.unmap (UM _) (Buf.unmap (ZbS _) hb)).ren (Vp hk).symm))
    | row sz xs ex fz=>exact False.elim hb
    | gone=>exact False.elim hb
    | tree sz ns xs lk=>exact False.elim hb
  have:=h.inj id af o0 o1 b h2 h4 (bk i id o0 h1 an) (bk j af o1 h3 ao);subst this;exact Zt0 aj h1 h3
 bound:=fun b hb=>by
  rcases hb with hb | ⟨id,ai,o,hl,_,hb⟩
  ·exact h.bound b hb
  ·exact h.blk_lt hl hb
 fresh:=fun b hb=>.inl hb
 own:=fun b hb=>.inl hb
 names:=fun id ai=>by
  simp only[KG,Zdl] at ai;simp only[Zhn,K8 ai]
 glob:=h.glob.mono ⟨fun b hb=>.inl hb,fun _ _=>rfl⟩
theorem ZEf {C:Orc} {M:Zr} (hC:Qy P C) (h:Sim nt F A I Γ U sl hp a w) {o:Oper} {fo:Operand} {as1:Array Operand} {ay:Array TypeId} {f' : Opd} {ys:List Opd}
  (ho:o.op=.call { callee:=.value fo,args:=as1,argTypes:=ay }) (hf:ZZ fo=some f') (az:QJ ZZ as1.toList=some ys) {base:Nat} (hb:Xl U base) (hd:QY nt o.dst=true) {ce:Zf}
  (a0:Q9 base (base+64) ce.eff.adds=true) (hv:ZdU C M hp base (evL sl ys) (evO sl f')=some ce):ZwB P nt F A I Γ U sl hp a w o base ce:=by
 have aw:=h.slOK.ev hf;unfold ZdU at hv;split at hv
 ·rename_i g ag hq;rw[hq] at aw;obtain⟨us,e1,a1⟩:=aw;unfold Zdr at hv;obtain⟨an,ao,hv⟩:=Za hv;unfold ZfG at hv;split at hv
  ·rename_i ah;obtain⟨ai,ab,_⟩:=ah;obtain⟨⟨r,out⟩,a2,hv⟩:=Za hv;obtain⟨ax,_,aj⟩:=U4 hp (X6 hp) (an.flatMap Zy) [] LA;have aa : ∀ id∈Xi hp (X6 hp) (an.flatMap Zy) [],∃ o,lkp hp id=some o:=fun id ap=>(aj id ap).resolve_left (by simp);have aq:Zz (Rep Γ w I) (evL sl ys++ag) (as1.toList.map a.eval++us.toList):=(h.slOK.evL az).append (a1.mono fun _ _ h=>h.rep2.rep);have ak:=ZAj h.hpOK (I':=ZhV Γ w hp I (YV (evL sl ys++ag) an)) (fun b hb=>.inl hb) (M g) 0 aq ao (ZyD h.hpOK _);have ar:=ZCO h ax aa ab ak (fun id ap=>by have:=K4.1 ai id ap;simpa using this);obtain⟨⟨fn,a3,al,ad⟩,ae⟩:=hC _ _ _ _ _ a2
   have af:=ae _ _ _ _ _ _ ar;have au:(execOp a.eval o).run P w=.ok (.enter g (as1.toList.map a.eval++us.toList).toArray) w:=by
    have av:(as1.toList.map a.eval++us.toList).toArray=as1.map a.eval++us:=by apply Array.ext';simp
    rw[av];have a4 : ¬fn.name = "runtime.NumGoroutine":=by simpa using al
    have a5 : ¬fn.body=none:=fun e=>by rw[e] at ad;cases ad
    simp[execOp,ho,resolve,Deferred.ofValue,e1,invoke,callFunc,a3,a4,a5]
   intro K Q hK;unfold Oper.wp;rw[au,Oper.upon_enter];refine af.mono fun e w' he=>?_;obtain⟨v,I',Γ',rfl,am⟩:=he;exact hK v w' (ZBi h hb ax aa ab am hv a0 hd)
  ·cases hv
 ·cases hv
theorem ZEg {C:Orc} {M:Zr} (hC:Qy P C) (h:Sim nt F A I Γ U sl hp a w) {o:Oper} {c:COp} (hc:cOp P o.type o.op=some c) {base:Nat} (hb:Xl U base) (hd:QY nt o.dst=true) {ce:Zf}
  (ag:Q9 base (base+64) ce.eff.adds=true) (hv:vop C M sl hp base c=some ce):ZwB P nt F A I Γ U sl hp a w o base ce:=by
 have hs:=h.slOK;have hh:=h.hpOK;cases hop:o.op with
 | move x=>
  rw[hop] at hc;simp only[cOp] at hc;obtain⟨y,h1,hc⟩:=Za hc;cases hc;exact((ZnJ (.inl hop) hs h1 hv).opOK h hb hd).opWp
 | assign x=>
  rw[hop] at hc;simp only[cOp] at hc;obtain⟨y,h1,hc⟩:=Za hc;cases hc;exact(ZB3 h hop h1 hb hd ag hv).opWp
 | pick x y z=>
  rw[hop] at hc;simp only[cOp] at hc;obtain⟨x',h1,hc⟩:=Za hc;obtain⟨y',h2,hc⟩:=Za hc;obtain⟨z',h3,hc⟩:=Za hc;cases hc;exact((ZBZ hop hs h1 h2 h3 hv).opOK h hb hd).opWp
 | alloc t=>
  rw[hop] at hc;simp only[cOp] at hc;obtain⟨z,h1,hc⟩:=Za hc;cases hc;exact(ZDx h hop h1 hb hd ag hv).opWp
 | box t x=>
  rw[hop] at hc;simp only[cOp] at hc;obtain⟨y,h1,hc⟩:=Za hc;cases hc;exact(op_box h hop h1 hb hd ag hv).opWp
 | build t ps=>
  rw[hop] at hc;simp only[cOp] at hc;obtain⟨z,h1,hc⟩:=Za hc;obtain⟨qs,h2,hc⟩:=Za hc;split at hc
  ·rename_i hf;cases hc;exact((Zzy hop h1 hf hs h2 hv).opOK h hb hd).opWp
  ·cases hc
 | buildSlice t n ps=>
  rw[hop] at hc;simp only[cOp] at hc;obtain⟨e,h1,hc⟩:=Za hc;obtain⟨ys,h2,hc⟩:=Za hc;split at hc
  ·rename_i hf;cases hc;exact(Zzz h hop h1 h2 hf.1 hf.2.1 hf.2.2 hb hd hv).opWp
  ·cases hc
 | load t x=>
  rw[hop] at hc;simp only[cOp] at hc;obtain⟨g,h1,hc⟩:=Za hc;obtain⟨y,h2,hc⟩:=Za hc;cases hc;exact((ZB0 hop hs hh h1 h2 hv).opOK h hb hd).opWp
 | store t x y=>
  rw[hop] at hc;simp only[cOp] at hc;obtain⟨x',h1,hc⟩:=Za hc;obtain⟨y',h2,hc⟩:=Za hc;split at hc
  ·rename_i hf;cases hc;exact(ZDu h hop hf h1 h2 hb hd ag hv).opWp
  ·cases hc
 | nilCheck x=>
  rw[hop] at hc;simp only[cOp] at hc;obtain⟨y,h1,hc⟩:=Za hc;cases hc;exact((Zto hop hs h1 hv).opOK h hb hd).opWp
 | binOp op t x y ty' =>
  rw[hop] at hc;simp only[cOp] at hc;obtain⟨x',h1,hc⟩:=Za hc;obtain⟨y',h2,hc⟩:=Za hc;cases hc;have plain:vop C M sl hp base (.bin op (Zjg P t) x' y')=some ce→ZwB P nt F A I Γ U sl hp a w o base ce:=fun hv=>((ZDq hop hs h1 h2 hv).opOK h hb hd).opWp;cases op with
  | eql=>
   simp only[Zy8] at hv;cases hk:Zxm P t with
   | some ks=>rw[hk] at hv;exact((ZwH (neg:=false) hop rfl hs h1 h2 hk hv).opOK h hb hd).opWp
   | none=>rw[hk] at hv;exact plain hv
  | neq=>
   simp only[Zy8] at hv;cases hk:Zxm P t with
   | some ks=>rw[hk] at hv;exact((ZwH (neg:=true) hop rfl hs h1 h2 hk hv).opOK h hb hd).opWp
   | none=>rw[hk] at hv;exact plain hv
  | _=>exact plain hv
 | unOp op t x=>
  rw[hop] at hc;simp only[cOp] at hc;obtain⟨x',h1,hc⟩:=Za hc;cases hc;exact((ZEH hop hs h1 hv).opOK h hb hd).opWp
 | convert s d x=>
  rw[hop] at hc;simp only[cOp] at hc;obtain⟨x',h1,hc⟩:=Za hc;exact((ZB1 hop hs h1 hc hv).opOK h hb hd).opWp
 | makeFunc fn fs cs=>
  rw[hop] at hc;cases fn<;>simp only[cOp] at hc<;>try (cases hc;done)
  split at hc
  ·rename_i he;obtain⟨ys,h1,hc⟩:=Za hc;cases hc;exact((ZEO hop he hs h1 hv).opOK h hb hd).opWp
  ·cases hc
 | makeSlice t l cc=>
  rw[hop] at hc;simp only[cOp] at hc;obtain⟨e,h1,hc⟩:=Za hc;obtain⟨l',h2,hc⟩:=Za hc;obtain⟨c',h3,hc⟩:=Za hc;obtain⟨z,h4,hc⟩:=Za hc;obtain⟨d,h5,hc⟩:=Za hc;split at hc
  ·rename_i hf;cases hc;simp only[vop] at hv;obtain⟨n,h6,hv⟩:=Za hv;obtain⟨m,h7,hv⟩:=Za hv;exact(ZEN h hop h1 h2 h3 h4 h5 hf hb hd h6 h7 hv).opWp
  ·cases hc
 | slice t x lo hi mx=>
  rw[hop] at hc;have pure:∀ {r:AV} {u:Value},(Instr.sliceAt t (a.eval x) (lo.map a.eval) (hi.map a.eval) (mx.map a.eval)).run P w=.ok u w→Rep Γ w I r u→ce=ceV r→ZwB P nt F A I Γ U sl hp a w o base ce:=by
   intro r u h1 h2 h3;exact(Ys.opOK h hb hd (P:=P) (o:=o) (ce:=ce) ⟨u,r,.inl (by simp[execOp,hop,h1]),h3,h2⟩).opWp
  cases mx with
  | none=>
   simp only[cOp] at hc;obtain⟨x',h1,hc⟩:=Za hc;obtain⟨ak,h2,hc⟩:=Za hc;obtain⟨aj,h3,hc⟩:=Za hc;unfold Zy9 at hc;split at hc
   ·rename_i e he;split at hc
    ·rename_i ab;cases hc;obtain⟨r,h4,h5⟩:=opt1_some hv;obtain⟨u,h6,h7⟩:=ZBY (P:=P) he (Lg.1 ab) hh (hs.evM h2) (hs.evM h3) (hs.ev h1) h4;exact pure h6 h7 h5
    ·cases hc
   ·split at hc
    ·rename_i ah;cases hc;obtain⟨r,h4,h5⟩:=opt1_some hv;obtain⟨u,h6,h7⟩:=Zzt (P:=P) ah (hs.evM h2) (hs.evM h3) (hs.ev h1) h4;exact pure h6 h7 h5
    ·cases hc
  | some m=>
   cases lo with
   | some l=>cases hi with
    | none=>simp only[cOp] at hc;cases hc
    | some hi=>
     simp only[cOp] at hc;obtain⟨e,he,hc⟩:=Za hc;split at hc
     ·rename_i ab;obtain⟨x',h1,hc⟩:=Za hc;obtain⟨ak,h0,hc⟩:=Za hc;obtain⟨aj,h2,hc⟩:=Za hc;obtain⟨m',h3,hc⟩:=Za hc;cases hc;obtain⟨r,h4,h5⟩:=opt1_some hv;obtain⟨u,h6,h7⟩:=Zzs (P:=P) he (Lg.1 ab) hh (hs.ev h1) (hs.ev h0) (hs.ev h2) (hs.ev h3) h4;exact pure h6 h7 h5
     ·cases hc
   | none=>cases hi with
    | none=>simp only[cOp] at hc;cases hc
    | some hi=>
     simp only[cOp] at hc;obtain⟨e,he,hc⟩:=Za hc;split at hc
     ·rename_i ab;obtain⟨x',h1,hc⟩:=Za hc;obtain⟨aj,h2,hc⟩:=Za hc;obtain⟨m',h3,hc⟩:=Za hc;cases hc;obtain⟨r,h4,h5⟩:=opt1_some hv;obtain⟨u,h6,h7⟩:=Zzr (P:=P) he (Lg.1 ab) hh (hs.ev h1) (hs.ev h2) (hs.ev h3) h4;exact pure h6 h7 h5
     ·cases hc
 | fieldAddr s x f=>
  rw[hop] at hc;simp only[cOp] at hc;obtain⟨q,h1,hc⟩:=Za hc;obtain⟨x',h2,hc⟩:=Za hc;cases hc;exact((Zzu hop hs h1 h2 hv).opOK h hb hd).opWp
 | field t x f=>
  rw[hop] at hc;simp only[cOp] at hc;obtain⟨q,h1,hc⟩:=Za hc;obtain⟨g,h2,hc⟩:=Za hc;obtain⟨x',h3,hc⟩:=Za hc;cases hc;exact((ZB2 hop hs h1 h2 h3 hv).opOK h hb hd).opWp
 | indexAddr t x i=>
  rw[hop] at hc;simp only[cOp] at hc;obtain⟨x',h1,hc⟩:=Za hc;obtain⟨i',h2,hc⟩:=Za hc;unfold Zrf at hc;split at hc
  ·rename_i e he;split at hc
   ·rename_i ab;cases hc;simp only[vop] at hv;obtain⟨n,h3,hv⟩:=Za hv;unfold ZjX at hv;split at hv
    ·rename_i h0;obtain⟨r,h4,h5⟩:=opt1_some hv;obtain⟨u,h6,h7⟩:=ZBK (P:=P) he (Lg.1 ab) hh (hs.ev h1) (hs.ev h2) h3 h0 h4;exact(Ys.opOK h hb hd (P:=P) (o:=o) (ce:=ce) ⟨u,r,.inl (by simp[execOp,hop,h6]),h5,h7⟩).opWp
    ·cases hv
   ·cases hc
  ·obtain⟨q,h3,hc⟩:=Za hc;split at hc
   ·rename_i ab;cases hc;simp only[vop] at hv;obtain⟨n,h4,hv⟩:=Za hv;obtain⟨u,r,h5,h6,h7⟩:=ZBJ (P:=P) h3 (Lg.1 ab) (hs.ev h1) (hs.ev h2) h4 hv;exact(Ys.opOK h hb hd (P:=P) (o:=o) (ce:=ce) ⟨u,r,.inl (by simp[execOp,hop,h5]),h6,h7⟩).opWp
   ·cases hc
 | index t x i=>
  rw[hop] at hc;simp only[cOp] at hc;obtain⟨x',h1,hc⟩:=Za hc;obtain⟨i',h2,hc⟩:=Za hc;exact((Zzv hop hs h1 h2 hc hv).opOK h hb hd).opWp
 | extract x i=>
  rw[hop] at hc;simp only[cOp] at hc;obtain⟨x',h1,hc⟩:=Za hc;cases hc;exact((ZDr hop hs h1 hv).opOK h hb hd).opWp
 | call cl=>
  obtain⟨callee,args,af⟩:=cl;cases callee with
  | value fo=>
   rw[hop] at hc;simp only[cOp] at hc;obtain⟨f',h1,hc⟩:=Za hc;obtain⟨ys,h2,hc⟩:=Za hc;cases hc;exact ZEf hC h hop h1 h2 hb hd ag hv
  | builtin bi=>
   rw[hop] at hc;simp only[cOp] at hc;have ad:∀ {r:AV} {u:Value},(∀ cs,(builtin bi af o.type cs (args.map a.eval)).run P w=.ok (.value u) w)→Rep Γ w I r u→ce=ceV r→ZwB P nt F A I Γ U sl hp a w o base ce:=by
    intro r u h1 h2 h3;exact(Ys.opOK h hb hd (P:=P) (o:=o) (ce:=ce) ⟨u,r,.inl (by simp only[execOp,hop,resolve,invoke,Sem.run_bind,Sem.run_pure,Result.andThen_ok,h1]),h3,h2⟩).opWp
   unfold Zcf at hc;split at hc
   ·rename_i x t aa ae;have e1:args = #[x]:=by apply Array.ext';simpa using aa
    have e2:af = #[t]:=by apply Array.ext';simpa using ae
    subst e1;subst e2;obtain⟨x',h1,hc⟩:=Za hc;unfold cLen at hc;split at hc
    ·rename_i e he;cases hc;simp only[vop] at hv;obtain⟨n,h2,hv⟩:=Za hv;refine ad (u:=.int .i64 n) ?_ (Zb2 _ _) (Qv hv);have:=ZEG (P:=P) (ty:=o.type) he hh (hs.ev h1) h2;simp[builtin,this]
    ·split at hc
     ·rename_i ah;cases hc;simp only[vop] at hv;obtain⟨n,h2,hv⟩:=Za hv;refine ad (u:=.int .i64 n) ?_ (Zb2 _ _) (Qv hv);have:=ZDn (P:=P) (w:=w) (ty:=o.type) ah (hs.ev h1) h2;simp[builtin,this]
     ·cases hc
   ·rename_i s x t u aa ae;have e1:args = #[s,x]:=by apply Array.ext';simpa using aa
    have e2:af = #[t,u]:=by apply Array.ext';simpa using ae
    subst e1;subst e2;obtain⟨e,h1,hc⟩:=Za hc;obtain⟨str,h2,hc⟩:=Za hc;obtain⟨s',h3,hc⟩:=Za hc;obtain⟨x',h4,hc⟩:=Za hc;split at hc
    ·rename_i ai;cases hc;exact(ZyI h hop h1 h2 ai h3 h4 hb hd hv).opWp
    ·cases hc
   ·rename_i x y aa;have e1:args = #[x,y]:=by apply Array.ext';simpa using aa
    subst e1;obtain⟨x',h1,hc⟩:=Za hc;obtain⟨y',h2,hc⟩:=Za hc;cases hc;obtain⟨z,r,h3,h4,h5⟩:=(ZrD (P:=P) (hs.ev h1) (hs.ev h2) af o.type).1 hv;exact ad (u:=z) (by simp[builtin,h3]) h5 h4
   ·rename_i x y aa;have e1:args = #[x,y]:=by apply Array.ext';simpa using aa
    subst e1;obtain⟨x',h1,hc⟩:=Za hc;obtain⟨y',h2,hc⟩:=Za hc;cases hc;obtain⟨z,r,h3,h4,h5⟩:=(ZrD (P:=P) (hs.ev h1) (hs.ev h2) af o.type).2 hv;exact ad (u:=z) (by simp[builtin,h3]) h5 h4
   ·rename_i x t aa ae;have e1:args = #[x]:=by apply Array.ext';simpa using aa
    have e2:af = #[t]:=by apply Array.ext';simpa using ae
    subst e1;subst e2;obtain⟨e,h1,hc⟩:=Za hc;obtain⟨x',h2,hc⟩:=Za hc;obtain⟨z,h3,hc⟩:=Za hc;obtain⟨d,h4,hc⟩:=Za hc;split at hc
    ·rename_i ai;cases hc;exact(ZCI h hop h1 h2 h3 h4 ai hb hd hv).opWp
    ·cases hc
   ·cases hc
  | invoke r m=>rw[hop] at hc;simp only[cOp] at hc;cases hc
 | _=>rw[hop] at hc;simp only[cOp] at hc;cases hc
theorem ZyK {C:Orc} {M:Zr} (hC:Qy P C) (h:Sim nt F A I Γ U sl hp a w) {o:Oper} {c:COp} (hc:V7 (cOp P o.type o.op)=c) {base:Nat} (hb:Xl U base) (hd:QY nt o.dst=true) {ce:Zf}
  (aa:Q9 base (base+64) ce.eff.adds=true) (hv:vop C M sl hp base c=some ce):ZwB P nt F A I Γ U sl hp a w o base ce:=by
 cases hq:cOp P o.type o.op with
 | none=>rw[hq] at hc;simp only[V7] at hc;subst hc;simp only[vop] at hv;cases hv
 | some c'=>rw[hq] at hc;simp only[V7] at hc;subst hc;exact ZEg hC h hq hb hd aa hv
def isBA:COp→Bool
 | .buildSl _ _=>true
 | .append _ _ _ _ _ _=>true
 | .assign _ _=>true
 | .make _ _ _ _ _=>true
 | _=>false
def NB (x:Option COp):Prop:=∀ c,isBA c=true→x≠some c
theorem NB.bnd {α:Type} {y:Option α} {f:α→Option COp} (h:∀ a,NB (f a)):NB (bnd y f):=by
 intro c hc e;obtain⟨a,_,e⟩:=Za e;exact h a c hc e
theorem NB.ite {c:Prop} [Decidable c] {x y:Option COp} (hx:NB x) (hy:NB y):NB (if c then x else y):=by
 split<;>assumption
theorem NB.none:NB none:=fun _ _ e=>by cases e
theorem NB.some {c:COp} (h:isBA c=false):NB (some c):=fun c' hc e=>by cases e;rw[h] at hc;cases hc
def Wi:Op→Bool
 | .buildSlice _ _ _=>true
 | .call { callee:=.builtin .append,args:=_,argTypes:=_ }=>true
 | .assign _=>true
 | .makeSlice _ _ _=>true
 | _=>false
theorem Zlu {ty:TypeId} {op:Op} (h:Wi op=false):NB (cOp P ty op):=by
 unfold cOp;split<;>try (simp[Wi] at h;done)
 all_goals (try unfold Zrf);(try unfold ZvS);(try unfold ZAF);(try unfold Zy9);(try unfold Zcf)
 all_goals repeat' first | exact NB.none | exact NB.some rfl | refine NB.bnd fun _=>?_ | refine NB.ite ?_ ?_ | split
 all_goals first
  | (unfold cLen;split<;>repeat' first | exact NB.none | exact NB.some rfl | refine NB.ite ?_ ?_)
  | (unfold Zy8;split<;>(try unfold Zxn)<;>(try split)<;>exact NB.some rfl)
  | exact absurd h (by simp[Wi])
  | skip
theorem ZEh {C:Orc} {M:Zr} (hC:Qy P C) (h:Sim nt F A I Γ U sl hp a w) {o:Oper} {c:COp} (hc:V7 (cOp P o.type o.op)=ZfT c) {base:Nat} (hb:Xl U base) (hd:QY nt o.dst=true) {ce:Zf}
  (al:Q9 base (base+64) ce.eff.adds=true) (hv:vop C M sl hp base c=some ce):ZwB P nt F A I Γ U sl hp a w o base ce:=by
 by_cases ah:∃ s b f x y,c=.appT s b f x y
 ·obtain⟨s,b,f,x,y,rfl⟩:=ah;simp only[ZfT] at hc;simp only[vop] at hv;cases hq:cOp P o.type o.op with
  | none=>rw[hq] at hc;simp[V7] at hc
  | some c' =>
   rw[hq] at hc;simp only[V7] at hc;subst hc;cases hop:Wi o.op with
   | false=>exact(Zlu hop _ rfl hq).elim
   | true=>
    unfold Wi at hop;split at hop
    ·rename_i aa;rw[aa] at hq;simp only[cOp] at hq;obtain⟨_,_,hq⟩:=Za hq;obtain⟨_,_,hq⟩:=Za hq;split at hq<;>cases hq
    ·rename_i as1 ae aa;rw[aa] at hq;simp only[cOp] at hq;unfold Zcf at hq;split at hq
     ·rename_i hb _ _;cases hb
     ·rename_i s' x' t u _ ab af;have e1:as1 = #[s',x']:=by apply Array.ext';simpa using ab
      have e2:ae = #[t,u]:=by apply Array.ext';simpa using af
      subst e1;subst e2;obtain⟨e,h1,hq⟩:=Za hq;obtain⟨str,h2,hq⟩:=Za hq;obtain⟨s2,h3,hq⟩:=Za hq;obtain⟨x2,h4,hq⟩:=Za hq;split at hq
      ·rename_i ag;cases hq;exact(ZAl h aa h1 h2 ag h3 h4 hb hd hv).opWp
      ·cases hq
     ·rename_i hb _;cases hb
     ·rename_i hb _;cases hb
     ·rename_i hb _ _;cases hb
     ·cases hq
    ·rename_i aa;rw[aa] at hq;simp only[cOp] at hq;obtain⟨_,_,hq⟩:=Za hq;cases hq
    ·rename_i aa;rw[aa] at hq;simp only[cOp] at hq;obtain⟨_,_,hq⟩:=Za hq;obtain⟨_,_,hq⟩:=Za hq;obtain⟨_,_,hq⟩:=Za hq;obtain⟨_,_,hq⟩:=Za hq;obtain⟨_,_,hq⟩:=Za hq;split at hq<;>cases hq
    ·cases hop
 by_cases ai:∃ s n y,c=.asgT s n y
 ·obtain⟨s,n,y,rfl⟩:=ai;simp only[ZfT] at hc;simp only[vop] at hv;cases hq:cOp P o.type o.op with
  | none=>rw[hq] at hc;simp[V7] at hc
  | some c' =>
   rw[hq] at hc;simp only[V7] at hc;subst hc;cases hop:Wi o.op with
   | false=>exact(Zlu hop _ rfl hq).elim
   | true=>
    unfold Wi at hop;split at hop
    ·rename_i aa;rw[aa] at hq;simp only[cOp] at hq;obtain⟨_,_,hq⟩:=Za hq;obtain⟨_,_,hq⟩:=Za hq;split at hq<;>cases hq
    ·rename_i as1 ae aa;rw[aa] at hq;simp only[cOp] at hq;unfold Zcf at hq;split at hq
     ·rename_i hb _ _;cases hb
     ·obtain⟨_,_,hq⟩:=Za hq;obtain⟨_,_,hq⟩:=Za hq;obtain⟨_,_,hq⟩:=Za hq;obtain⟨_,_,hq⟩:=Za hq;split at hq<;>cases hq
     ·rename_i hb _;cases hb
     ·rename_i hb _;cases hb
     ·rename_i hb _ _;cases hb
     ·cases hq
    ·rename_i aa;rw[aa] at hq;simp only[cOp] at hq;obtain⟨z,h1,hq⟩:=Za hq;simp only[Option.some.injEq,COp.assign.injEq] at hq;obtain⟨_,rfl⟩:=hq;exact(ZEe h aa h1 hb hd hv).opWp
    ·rename_i aa;rw[aa] at hq;simp only[cOp] at hq;obtain⟨_,_,hq⟩:=Za hq;obtain⟨_,_,hq⟩:=Za hq;obtain⟨_,_,hq⟩:=Za hq;obtain⟨_,_,hq⟩:=Za hq;obtain⟨_,_,hq⟩:=Za hq;split at hq<;>cases hq
    ·cases hop
 by_cases aj:∃ s n ys,c=.buildT s n ys
 ·obtain⟨s,n,ys,rfl⟩:=aj;simp only[ZfT] at hc;simp only[vop] at hv;cases hq:cOp P o.type o.op with
  | none=>rw[hq] at hc;simp[V7] at hc
  | some c' =>
   rw[hq] at hc;simp only[V7] at hc;subst hc;cases hop:Wi o.op with
   | false=>exact(Zlu hop _ rfl hq).elim
   | true=>
    unfold Wi at hop;split at hop
    ·rename_i aa;rw[aa] at hq;simp only[cOp] at hq;obtain⟨e,h1,hq⟩:=Za hq;obtain⟨xs,h2,hq⟩:=Za hq;split at hq
     ·rename_i ad;obtain⟨c1,c2,c3⟩:=ad;cases hq;exact(ZBk h aa h1 h2 c1 c2 c3 hb hd hv).opWp
     ·cases hq
    ·rename_i as1 ae aa;rw[aa] at hq;simp only[cOp] at hq;unfold Zcf at hq;split at hq
     ·rename_i hb _ _;cases hb
     ·obtain⟨_,_,hq⟩:=Za hq;obtain⟨_,_,hq⟩:=Za hq;obtain⟨_,_,hq⟩:=Za hq;obtain⟨_,_,hq⟩:=Za hq;split at hq<;>cases hq
     ·rename_i hb _;cases hb
     ·rename_i hb _;cases hb
     ·rename_i hb _ _;cases hb
     ·cases hq
    ·rename_i aa;rw[aa] at hq;simp only[cOp] at hq;obtain⟨_,_,hq⟩:=Za hq;cases hq
    ·rename_i aa;rw[aa] at hq;simp only[cOp] at hq;obtain⟨_,_,hq⟩:=Za hq;obtain⟨_,_,hq⟩:=Za hq;obtain⟨_,_,hq⟩:=Za hq;obtain⟨_,_,hq⟩:=Za hq;obtain⟨_,_,hq⟩:=Za hq;split at hq<;>cases hq
    ·cases hop
 by_cases ak:∃ s b n z l k,c=.makeT s b n z l k
 ·obtain⟨s,b,n,z,l,k,rfl⟩:=ak;simp only[ZfT] at hc;simp only[vop] at hv;cases hq:cOp P o.type o.op with
  | none=>rw[hq] at hc;simp[V7] at hc
  | some c' =>
   rw[hq] at hc;simp only[V7] at hc;subst hc;cases hop:Wi o.op with
   | false=>exact(Zlu hop _ rfl hq).elim
   | true=>
    unfold Wi at hop;split at hop
    ·rename_i aa;rw[aa] at hq;simp only[cOp] at hq;obtain⟨_,_,hq⟩:=Za hq;obtain⟨_,_,hq⟩:=Za hq;split at hq<;>cases hq
    ·rename_i as1 ae aa;rw[aa] at hq;simp only[cOp] at hq;unfold Zcf at hq;split at hq
     ·rename_i hb _ _;cases hb
     ·obtain⟨_,_,hq⟩:=Za hq;obtain⟨_,_,hq⟩:=Za hq;obtain⟨_,_,hq⟩:=Za hq;obtain⟨_,_,hq⟩:=Za hq;split at hq<;>cases hq
     ·rename_i hb _;cases hb
     ·rename_i hb _;cases hb
     ·rename_i hb _ _;cases hb
     ·cases hq
    ·rename_i aa;rw[aa] at hq;simp only[cOp] at hq;obtain⟨_,_,hq⟩:=Za hq;cases hq
    ·rename_i aa;rw[aa] at hq;simp only[cOp] at hq;obtain⟨e,h1,hq⟩:=Za hq;obtain⟨l',h2,hq⟩:=Za hq;obtain⟨c',h3,hq⟩:=Za hq;obtain⟨z',h4,hq⟩:=Za hq;obtain⟨d',h5,hq⟩:=Za hq;split at hq
     ·rename_i ag;cases hq;obtain⟨x,h6,hv⟩:=Za hv;obtain⟨y,h7,hv⟩:=Za hv;exact(ZCJ h aa h1 h2 h3 h4 h5 ag hb hd h6 h7 hv).opWp
     ·cases hq
    ·cases hop
 have:ZfT c=c:=by cases c<;>first | rfl | exact absurd ⟨_,_,_,rfl⟩ aj | exact absurd ⟨_,_,_,_,_,rfl⟩ ah | exact absurd ⟨_,_,_,rfl⟩ ai | exact absurd ⟨_,_,_,_,_,_,rfl⟩ ak
 rw[this] at hc;exact ZyK hC h hc hb hd al hv
end
end Go.Abs
