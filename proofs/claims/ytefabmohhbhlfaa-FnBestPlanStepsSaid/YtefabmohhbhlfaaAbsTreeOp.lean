/- Own text. -/
import Derived.Test.YtefabmohhbhlfaaAbsStep8
import Derived.Test.YtefabmohhbhlfaaAbsCall3
set_option linter.unusedVariables false
set_option linter.unusedSimpArgs false
namespace Go.Abs
open Go
theorem ZfG {α:Type} (zc:List α):∀ (n i j:Nat),i<n→j<zc.length→((List.replicate n zc).flatten)[i*zc.length+j]?=zc[j]?
 | 0,i,j,h,_=>by omega
 | n+1,0,j,_,hj=>by rw[LV,K0,Nat.zero_mul,Kz,Ku hj]
 | n+1,i+1,j,h,hj=>by
  have e:(i+1)*zc.length+j=zc.length+(i*zc.length+j):=by rw[KI];omega
  rw[LV,K0,e,Kv (by omega),Lg];exact ZfG zc n i j (by omega) hj
theorem ZmV {α:Type} (zc:List α) (n:Nat):((List.replicate n zc).flatten).length=n*zc.length:=by simp
section
variable {P:Program} {nt:Nat} {U:Nat→Prop} {F A I:Nat→Prop} {Γ:Gh} {sl:Sl} {hp:Hp} {a:Act} {w:World}
theorem Zth (h:Sim nt F A I Γ U sl hp a w) {o:Oper} {t e:TypeId} {x:Operand} {x' : Opd} {z:Value} {d:D} (ho:o.op=.call { callee:=.builtin .clear,args := #[x],argTypes := #[t] }) (he:Xw P t=some e) (hx:ZO x=some x')
  (hz:UT P e=some z) (an:evD z=some d) (a6:VT P e=true) {base:Nat} (hb:QJ U base) (hd:Qv nt o.dst=true) {ce:Zb} (hv:Zb8 (ZbE hp (P.cellsOf e) d (evO sl x'))=some ce):ZaP P nt F A I Γ U sl hp a w o base ce:=by
 obtain⟨i,z',hi,a7,bh,a8,ao,ap⟩:=Yi a6;obtain⟨i',aw,ag⟩:=ZbC hz;rw[hi] at aw;cases aw;rw[a7] at ag;cases ag;unfold Zb8 at hv;obtain⟨ef,h1,hv⟩:=Za hv;cases hv;have ax:=h.slOK.ev hx;unfold ZbE at h1;split at h1
 ·rename_i id off n a9;rw[a9] at ax;obtain⟨a0,m,c,sz,av,hb1,h2,h3,hb2,h4,h5⟩:=ax;unfold Zfd at h1;split at h1
  ·rename_i bi xs ex hl;split at h1
   ·rename_i hc;obtain⟨c1,c2,c3⟩:=hc;cases h1;obtain⟨ad,n',c',ay,hn,az⟩:=h.objs id _ hl;rw[hb1] at ay;cases ay;generalize P.cellsOf e=pe at *;subst c1;have run:∀ w' : World,(Builtin.clear_ #[t] o.type #[a.eval x]).run P w=.ok (.tuple #[]) w'→ZjC P o a w (.tuple #[]) w':=fun w' hr=>.inl (by
     simp only[execOp,ho,resolve,invoke,Sem.run_bind,Sem.run_pure,Result.andThen_ok];simp[builtin,hr])
    cases n with
    | zero=>
     refine⟨_,w,run w ?_,?_⟩
     ·rw[hb2];cases av<;>simp[Builtin.clear_,run_underlying (Qy he)]
     ·rw[QO];have ah:∀ k o',lkp (Zd (Zd (ZU (Z8 [] hp) []) [(id,.row sz (xs.take off++List.replicate 0 d++xs.drop (off+0)) ex false)]) []) k=some o'→lkp hp k=some o':=by
       intro k o' hk;simp only[Zd,ZU,Z8,Z4] at hk;split at hk
       ·rename_i e1;subst e1;simp at hk;rw[hl,← hk]
       ·exact hk
      exact(h.sub ah).pure (fun id hu=>.inl hu) ⟨#[],rfl,trivial⟩ hd
    | succ n=>
     rcases az with az | ⟨g,q0,cur,e',a',a1,hw,ba,bb,am,ai,aj,a2,a3⟩
     ·omega
     ·subst a';obtain⟨am,bc⟩:=am;have bd:av=some ⟨g,q0+off*sz,none⟩:=by
       rcases h5 with h5 | h5
       ·rw[h5];simp[Vj]
       ·omega
      subst bd;simp only[Ka,Kf] at aj;have ak:z.cells.toList.length=sz:=by rw[← c2];exact(ZhN (w:=w) (S:=I) an).length
      have be:=Ux (w:=w) (S:=I) ak (ZhN an) (n+1);have a4:((List.replicate (n+1) z.cells.toList).flatten).length=(n+1)*sz:=by rw[ZmV,ak]
      have aq:=Zj5 be;have bf:q0+off*sz+(n+1)*sz≤cur.size:=by
       rw[am,KK,← KI];exact LX (KF _ (by omega)) _
      have ar:=run_storeCells_at P g (q0+off*sz) e' ((List.replicate (n+1) z.cells.toList).flatten) 0 cur w hw (by rw[a4];simpa using bf) aq;have aa:(Builtin.zeroCells z.cells (n+1)).toList=(List.replicate (n+1) z.cells.toList).flatten:=Uw z.cells (n+1);have al:cur.toList.take (q0+off*sz+0)++(List.replicate (n+1) z.cells.toList).flatten++cur.toList.drop (q0+off*sz+0+((List.replicate (n+1) z.cells.toList).flatten).length)=Zm cur.toList (q0+off*sz) ((List.replicate (n+1) z.cells.toList).flatten):=rfl;rw[al] at ar;generalize hZ:(List.replicate (n+1) z.cells.toList).flatten=Z at ar a4 aa al;refine⟨_,w.setRow g (Zm cur.toList (q0+off*sz) Z).toArray,run _ ?_,?_⟩
      ·rw[hb2];simp[Builtin.clear_,run_underlying (Qy he),Za5 hz,aa,ar]
      ·rw[QO];have bg:¬(if ex then fun b=>I b∧A b else I) g:=by cases ex<;>simp<;>first | exact aj | exact fun hI=>absurd hI aj
       have au:(Zm cur.toList (q0+off*sz) Z).length=cur.size:=by rw[YM];simp;simp;omega
       have ab:(w.setRow g (Zm cur.toList (q0+off*sz) Z).toArray).heap[g]?=some (.cells (Zm cur.toList (q0+off*sz) Z).toArray e' (0,0)):=setRow_heap w g cur _ e' _ hw;refine h.turn hb hl (by rw[hb1];simp[Zq,Ky a1]) aj a2 (adds:=[]) (Z6.refl Γ) (fun _ _=>rfl) (fun k o hk=>by simp at hk) (fun k hk=>h.names k (fun hu=>hk (.inl hu))) ?_ ⟨#[],rfl,trivial⟩ hd;refine⟨_,m,c,hb1,by simp;omega,.inr ⟨g,q0,_,e',rfl,a1,ab,ba,bb,⟨by simp[au,am],bc⟩,ai,by simpa using aj,a2,?_⟩⟩;have keep:ZF (if ex then fun b=>I b∧A b else I) (if ex then fun b=>I b∧A b else I) w (w.setRow g (Zm cur.toList (q0+off*sz) Z).toArray):=W9 bg
       have ae:∀ p,(w.setRow g (Zm cur.toList (q0+off*sz) Z).toArray).cell? ⟨g,p,none⟩=(Zm cur.toList (q0+off*sz) Z)[p]?:=fun p=>by
        rw[cell_of_row _ _ _ _ _ _ ab];simp
       have af:∀ p,w.cell? ⟨g,p,none⟩=cur.toList[p]?:=fun p=>by rw[cell_of_row _ _ _ _ _ _ hw];simp
       rw[XD] at a3 ⊢;have e3:xs.take off++List.replicate (n+1) d++xs.drop (off+(n+1))=Zm xs off (List.replicate (n+1) d):=by simp[Zm]
       intro k y hk;rw[e3,Qa _ _ _ _ (by simp;omega)] at hk;simp only[List.length_replicate] at hk;split at hk
       ·rename_i a5;have hy:y=d:=by
         have:=Kp hk;exact(List.mem_replicate.1 this).2
        subst hy;refine⟨z.cells.toList,ak,fun p u hu=>?_,ZhN an⟩;have hp:p<sz:=by rw[← ak];exact(Kd.1 hu).1
        have e4:q0+k*sz+p=q0+off*sz+((k-off)*sz+p):=by
         have:k=off+(k-off):=by omega
         rw[this,KI];simp;omega
        have e5:(k-off)*sz+p<(n+1)*sz:=by
         have:(k-off+1)*sz≤(n+1)*sz:=KF _ (by omega);rw[KI] at this;omega
        rw[ae,e4,Qa _ _ _ _ (by simp;omega),Km (by omega),Lg,← hZ];have:=ZfG z.cells.toList (n+1) (k-off) p (by omega) (by omega);rw[ak] at this;rw[this];exact hu
       ·rename_i a5;obtain⟨vs,v1,v2,v3⟩:=a3 k y hk;refine⟨vs,v1,fun p u hu=>?_,v3.mono keep⟩;have hp:p<sz:=by rw[← v1];exact(Kd.1 hu).1
        have e6:¬(q0+off*sz≤q0+k*sz+p∧q0+k*sz+p<q0+off*sz+Z.length):=by
         rintro ⟨g1,g2⟩
         have g2:k*sz+p<off*sz+(n+1)*sz:=by omega
         rw[← KI] at g2;have g3:k<off+(n+1):=by
          rcases KX k (off+(n+1)) with h | h
          ·exact h
          ·have:=KF sz h;omega
         have g4:off≤k:=by
          rcases KX k off with h | h
          ·have:=KF sz (show k+1≤off from h);rw[KI] at this;omega
          ·exact h
         exact a5 ⟨g4,g3⟩
        rw[ae,Qa _ _ _ _ (by simp;omega),Kl e6,← af];exact v2 p u hu
   ·cases h1
  ·cases h1
 ·cases h1
end
end Go.Abs
set_option linter.unusedVariables false
set_option linter.unusedSimpArgs false
namespace Go.Abs
open Go
section
variable {P:Program} {nt:Nat} {U:Nat→Prop} {F A I:Nat→Prop} {Γ:Gh} {sl:Sl} {hp:Hp} {a:Act} {w:World}
theorem Sim.takes (h:Sim nt F A I Γ U sl hp a w) {base:Nat} (hb:QJ U base) {dels:List Nat} {o1:Zg} {r:Ref} {w' : World} (ay:w.heap.size≤w'.heap.size) (a2:w'.os=w.os) (af:w'.tape=w.tape) (al:w'.output=w.output)
  (ae:∀ k,k<w.heap.size→w'.heap[k]?=w.heap[k]?∨(∃ id∈dels,∃ o,lkp hp id=some o∧Blk Γ w id o k)∧¬I k)
  (a3:XZ (upd Γ base r) w' I F A base o1) {v:AV} {u:Value} {dst:Option Nat} (am:Rep (upd Γ base r) w' I v u) (an:Qv nt dst=true)
  (ao:∀ b,Blk (upd Γ base r) w' base o1 b→w.heap.size≤b∨∃ id∈dels,∃ o,lkp hp id=some o∧Blk Γ w id o b) :
  YB nt F A I Γ w (W3 U base) (Zk sl dst v) (Zd (ZU hp dels) [(base,o1)]) (a.put dst u) w':=by
 have aa:ZF I I w w':=⟨fun _ h=>h,fun b ah=>(ae b (h.bound b ah)).elim id fun hh=>absurd ah hh.2⟩
 have hk:Z6 Γ (upd Γ base r):=YL _ (h.names base hb.self);have hF:∀ k,k<w.heap.size→¬F k→w'.heap[k]?=w.heap[k]?:=fun k hk hf=>(ae k hk).elim id fun ⟨⟨id,_,o,hl,ab⟩,_⟩=>absurd (Zfz (h.objs id o hl) ab) hf;refine⟨I,upd Γ base r,hk,aa,fun _ h=>.inl h,⟨a2,af,al,ay,hF⟩,?_⟩;have ap:∀ i o,lkp (Zd (ZU hp dels) [(base,o1)]) i=some o→(i=base∧o=o1)∨(i≠base∧i∉dels∧lkp hp i=some o):=by
  intro i o hi;simp only[Zd,Z4] at hi;split at hi
  ·rename_i e;cases hi;exact .inl ⟨e.symm,rfl⟩
  ·rename_i e;obtain⟨h1,h2⟩:=Vq _ _ _ _ hi;exact .inr ⟨fun e'=>e e'.symm,h2,h1⟩
 have ag:∀ i o b,i∉dels→lkp hp i=some o→Blk Γ w i o b→w'.heap[b]?=w.heap[b]?:=fun i o b hn hl ab=>
  (ae b (h.blk_lt hl ab)).elim id fun ⟨⟨id,aq,o',a4,ah⟩,_⟩=>absurd (h.inj i id o o' b hl a4 ab ah ▸ aq) hn
 have ai:∀ i o b,i≠base→i∉dels→lkp hp i=some o→Blk (upd Γ base r) w' i o b→Blk Γ w i o b:=fun i o b h1 h2 h3 h4=>
  h4.back (h.objs i o h3) (Qn _ _ h1) fun g' a5=>ag i o g' h2 h3 a5
 refine h.next hk aa ?_ ?_ (fun b hI=>by have:=h.bound b hI;omega) ay (fun k az=>by rw[Qn _ _ (fun e=>az (.inr (by omega)))];exact h.names k (fun hu=>az (.inl hu))) am an
 ·intro i o hi;rcases ap i o hi with ⟨rfl,rfl⟩ | ⟨a6,ar,hm⟩
  ·exact a3
  ·exact(h.objs i o hm).mono hk aa fun b ab=>⟨ag i o b ar hm ab,fun h=>h⟩
 ·have ad:∀ j o' b,j∉dels→lkp hp j=some o'→Blk Γ w j o' b→Blk (upd Γ base r) w' base o1 b→False:=by
   intro j o' b hj hl ab hn;rcases ao b hn with h1 | ⟨id,aq,o,h1,h2⟩
   ·have:=h.blk_lt hl ab;omega
   ·exact hj (h.inj j id o' o b hl h1 ab h2 ▸ aq)
  intro i j o o' b hi hj au av;rcases ap i o hi with ⟨rfl,rfl⟩ | ⟨a0,aw,aj⟩<;>rcases ap j o' hj with ⟨rfl,rfl⟩ | ⟨a1,ax,ak⟩
  ·rfl
  ·exact(ad j o' b ax ak (ai j o' b a1 ax ak av) au).elim
  ·exact(ad i o b aw aj (ai i o b a0 aw aj au) av).elim
  ·exact h.inj i j o o' b aj ak (ai i o b a0 aw aj au) (ai j o' b a1 ax ak av)
theorem ZrR {ns:Nat} {v:Value} {d:D} (h:ZeP v=some d):Qb w ns [] d v:=by
 unfold ZeP at h;split at h<;>cases h
 ·simp[Qb]
 ·simp[Qb]
 ·simp only[Qb];exact⟨⟨_,rfl,rfl⟩,trivial⟩
 ·simp only[Qb];exact⟨none,0,rfl,Kh _,.inl ⟨rfl,trivial⟩⟩
theorem ZlQ {ns:Nat}:∀ {vs:List Value} {ds:List D},Qi ZeP vs=some ds→ZZ w ns [] ds vs
 | [],ds,h=>by simp only[Qi] at h;cases h;simp[ZZ]
 | v :: vs,ds,h=>by
  simp only[Qi] at h;obtain⟨d,h1,h⟩:=Za h;obtain⟨aa,h2,h⟩:=Za h;cases h;simp only[ZZ];exact⟨v,vs,[],[],rfl,rfl,ZrR h1,ZlQ h2⟩
theorem ZuD {ns:Nat} {v:Value} {d:D} (h:evD v=some d) (ha:d.isAgg=true):QX w ns [] d v.cells.toList:=by
 unfold evD at h;split at h
 ·obtain⟨ds,h1,h⟩:=Za h;cases h;simp only[QX,Value.cells];exact ZlQ h1
 ·unfold ZeP at h;split at h<;>cases h<;>cases ha
theorem ZcW {g sz ns:Nat} {d:D} {c:List Value} (hl:c.length=sz) (hd:QX w ns [] d c):∀ (n o:Nat),Qe w g o (List.replicate n c).flatten→ZP w ns [] g sz (List.replicate n d) o
 | 0,o,_=>by simp[ZP]
 | n+1,o,h=>by
  simp only[LV,K0] at h;simp only[LV,ZP];refine⟨c,[],[],rfl,hl,fun j u hu=>h j u ?_,hd,ZcW hl hd n (o+sz) fun j u hu=>?_⟩
  ·rw[Ku (Kd.1 hu).1];exact hu
  ·have:=h (c.length+j) u (by rw[Kv (by omega),Lg];exact hu);rw[← KK,hl] at this;exact this
theorem Zti (h:Sim nt F A I Γ U sl hp a w) {o:Oper} {t e:TypeId} {l c:Operand} {l' c' : Opd} {z:Value} {d:D} (ho:o.op=.makeSlice t l c) (he:Xw P t=some e) (hl:ZO l=some l') (hc:ZO c=some c')
  (hz:UT P e=some z) (am:evD z=some d) (an:VT P e=true) {base ns:Nat} (hb:QJ U base) (hd:Qv nt o.dst=true) {ce:Zb} {n m:Int} (hn:idx (evO sl l')=some n) (hm:idx (evO sl c')=some m)
  (hv:makeT base (P.cellsOf e) (P.bytesOf e) ns d n m=some ce):ZaP P nt F A I Γ U sl hp a w o base ce:=by
 obtain⟨i,z',hi,ai,aj,ag,ab,ad⟩:=Yi an;obtain⟨i',ak,ae⟩:=ZbC hz;rw[hi] at ak;cases ak;rw[ai] at ae;cases ae;obtain⟨k1,e1⟩:=YV hn (h.slOK.ev hl);obtain⟨k2,e2⟩:=YV hm (h.slOK.ev hc);unfold makeT at hv;split at hv
 ·rename_i af;obtain⟨c1,c2,c3,c4,c5,c6⟩:=af;cases hv;rw[ab] at c5 ⊢;rw[ad] at c3;have hr:=run_make (P:=P) w t e i z (Qy he) hi ai k1 k2 n m c1 c2 (by have h2:=c3;rw[Int.mul_comm] at h2;simp only[Zy] at h2;omega) (by simp only[Zy] at c4;omega);refine⟨.slice (some ⟨w.heap.size,0,none⟩) n.toNat m.toNat,w.alloc (.cells (madeCells z.cells (m.toNat*i.size)) e),.inl (by simp[execOp,ho,e1,e2,hr]),?_⟩;rw[QO];have al : (w.alloc (.cells (madeCells z.cells (m.toNat*i.size)) e)).heap[w.heap.size]?=some (.cells (madeCells z.cells (m.toNat*i.size)) e (0,0)):=heap_alloc_new w _;have hT:ZP (w.alloc (.cells (madeCells z.cells (m.toNat*i.size)) e)) ns [] w.heap.size i.size (List.replicate n.toNat d) 0:=by
   refine ZcW (by simp[aj]) (ZuD am c6) n.toNat 0 (YC al (ys:=(List.replicate (m.toNat-n.toNat) z.cells.toList).flatten) ?_);rw[← aj,Uw,← Ln,List.replicate_append_replicate];congr 2
   omega
  have ao:F w.heap.size:=h.fresh _ (Kh _);have ap:¬I w.heap.size:=fun hi=>absurd (h.bound _ hi) (by omega);refine h.takes hb (w':=w.alloc (.cells (madeCells z.cells (m.toNat*i.size)) e)) (dels:=[]) (r:=.row (some ⟨w.heap.size,0,none⟩) n.toNat m.toNat i.size) (by simp) rfl rfl rfl (fun k hk=>.inl (XB w _ k hk)) ?_ ⟨_,_,_,_,Zz _ _ _,rfl⟩ hd fun b aa=>?_
  ·refine⟨_,n.toNat,m.toNat,Zz _ _ _,⟨by simp,?_⟩,trivial⟩;rcases Lr m.toNat with ah | ah
   ·exact .inl ⟨by omega,ah,rfl⟩
   ·exact .inr ⟨_,_,e,[],rfl,ah,al,by omega,by simp only[Zy] at c4;simp only[maxLen];omega,size_madeCells _ _,ag,hT,by simp,fun b hb=>by simp at hb;subst hb;exact⟨ap,ao⟩⟩
  ·rcases aa with aa | ⟨g,B,hg,hB,aa⟩ | aa
   ·rw[Us,Zz] at aa;simp only[Zq] at aa;split at aa
    ·cases aa
    ·cases aa;exact .inl (Kh _)
   ·rw[Zz] at hg;simp only[Zq] at hg;split at hg
    ·cases hg
    ·cases hg;cases ZP.uniq hT hB;simp at aa
   ·exact aa.elim
 ·cases hv
theorem Ztj {ns:Nat} {B:List Nat} {d:D} {v:Value} (h:Qb w ns B d v):v.oneCell'=true:=by
 cases d with
 | sl ys=>simp only[Qb] at h;obtain⟨a,c,rfl,_⟩:=h;rfl
 | agg cs=>simp only[Qb] at h
 | int k n=>simp only[Qb] at h;rw[h.1];rfl
 | bool b=>simp only[Qb] at h;rw[h.1];rfl
 | str s=>simp only[Qb] at h;obtain⟨⟨t,rfl,_⟩,_⟩:=h;rfl
theorem Zom {ns:Nat}:∀ {ds:List D} {B:List Nat} {vs:List Value},ZZ w ns B ds vs→∀ v∈vs,v.oneCell'=true
 | [],_,_,h,v,hv=>by simp only[ZZ] at h;rw[h.1] at hv;simp at hv
 | d :: ds,_,_,h,v,hv=>by
  simp only[ZZ] at h;obtain⟨u,r,B1,B2,rfl,rfl,h2,h3⟩:=h;rcases Ke.1 hv with rfl | hv
  ·exact Ztj h2
  ·exact Zom h3 v hv
theorem Zj9 {ns g sz:Nat}:∀ {xs:List D} {B:List Nat} {o:Nat},ZP w ns B g sz xs o→∃ os:List Value,os.length=xs.length*sz∧Qe w g o os∧(∀ v∈os,v.oneCell'=true) ∧
  ∀ (w' : World) (g' o' : Nat),(∀ b∈B,w'.heap[b]?=w.heap[b]?)→Qe w' g' o' os→ZP w' ns B g' sz xs o'
 | [],B,o,h=>⟨[],by simp,fun j u hu=>by simp at hu,fun v hv=>by simp at hv,fun w' g' o' _ _=>by simpa only[ZP] using h⟩
 | d :: ds,B,o,h=>by
  simp only[ZP] at h;obtain⟨vs,B1,B2,rfl,h1,h2,h3,h4⟩:=h;obtain⟨os,k1,k2,k3,k4⟩:=Zj9 h4;refine⟨vs++os,by simp only[Kk,Ki,h1,k1,KI];omega,fun j u hu=>?_,fun v hv=>?_,fun w' g' o' hk aa=>?_⟩
  ·rw[Kaa] at hu;split at hu
   ·exact h2 j u hu
   ·have:=k2 _ u hu;have e:o+sz+(j-vs.length)=o+j:=by omega
    rwa [e] at this
  ·rcases Kc.1 hv with hv | hv
   ·exact Zom h3.cells v hv
   ·exact k3 v hv
  ·simp only[ZP];refine⟨vs,B1,B2,rfl,h1,fun j u hu=>aa j u ?_,h3.mono fun b hb=>hk b (by simp[hb]),k4 w' g' (o'+sz) (fun b hb=>hk b (by simp[hb])) fun j u hu=>?_⟩
   ·rw[Ku (Kd.1 hu).1];exact hu
   ·have:=aa (vs.length+j) u (by rw[Kv (by omega),Lg];exact hu)
    rwa [← KK,h1] at this
theorem Zeu (h:Sim nt F A I Γ U sl hp a w) {ns s:Nat}:∀ {vs:List AV} {us:List Value} {q:List D×List Nat},Zr (Rep Γ w I) vs us→Yn hp ns s vs=some q →
  ∃ B,B.Nodup∧(∀ b∈B,¬I b∧F b)∧(∀ b∈B,∃ id∈q.2,∃ o,lkp hp id=some o∧Blk Γ w id o b)∧(∀ u∈us,u.cells.size=s)∧q.1.length=us.length ∧
   ∀ (w' : World) (g o:Nat),(∀ b∈B,w'.heap[b]?=w.heap[b]?)→Qe w' g o (us.map fun u=>u.cells.toList).flatten→ZP w' ns B g s q.1 o
 | [],[],q,_,hq=>by
  simp only[Yn] at hq;cases hq;exact⟨[],Lh,fun b hb=>by simp at hb,fun b hb=>by simp at hb,fun u hu=>by simp at hu,rfl,fun w' g o _ _=>by simp[ZP]⟩
 | [],_ :: _,_,h,_=>h.elim
 | _ :: _,[],_,h,_=>h.elim
 | x :: vs,u :: us,q,hr,hq=>by
  cases x with
  | agg cs=>
   simp only[Yn] at hq;obtain⟨q1,h1,hq⟩:=Za hq;obtain⟨q2,h2,hq⟩:=Za hq;split at hq
   ·rename_i hc;obtain⟨hl,hc⟩:=hc;cases hq;obtain⟨ws,rfl,ah⟩:=hr.1;obtain⟨B1,j1,j2,j3,j4⟩:=ZfF h ah h1;obtain⟨B2,k1,k2,k3,k4,k5,k6⟩:=Zeu h hr.2 h2;have ab:ws.size=s:=by have:=j1.length;simp at this;omega
    refine⟨B1++B2,Lw.2 ⟨j2,k1,fun b hb b' ai e=>?_⟩,fun b hb=>?_,fun b hb=>?_,fun u hu=>?_,by simp[k5],fun w' g o hk ad=>?_⟩
    ·subst e;obtain⟨id,aa,o,hl,aj⟩:=j4 b hb;obtain⟨ak,ae,o',al,af⟩:=k3 b ai;have:=h.inj id ak o o' b hl al aj af;subst this;simp only[KH] at hc;have:(q1.2.any q2.2.contains)=true:=Lt.2 ⟨id,aa,by simpa using ae⟩;rw[this] at hc;cases hc
    ·rcases Kc.1 hb with hb | hb
     ·exact j3 b hb
     ·exact k2 b hb
    ·rcases Kc.1 hb with hb | hb
     ·obtain⟨id,aa,hh⟩:=j4 b hb;exact⟨id,by simp[aa],hh⟩
     ·obtain⟨id,aa,hh⟩:=k3 b hb;exact⟨id,by simp[aa],hh⟩
    ·rcases Ke.1 hu with rfl | hu
     ·exact ab
     ·exact k4 u hu
    ·simp only[Kn,K0,Value.cells] at ad;simp only[ZP];refine⟨ws.toList,B1,B2,rfl,by simpa using ab,fun j u hu=>ad j u ?_,Zj8 (j1.mono fun b hb=>hk b (by simp[hb])),k6 w' g (o+s) (fun b hb=>hk b (by simp[hb])) fun j u hu=>?_⟩
     ·rw[Ku (Kd.1 hu).1];exact hu
     ·have:=ad (ws.toList.length+j) u (by rw[Kv (by omega),Lg];exact hu)
      rwa [← KK,KW,ab] at this
   ·cases hq
  | own id0=>
   simp only[Yn] at hq;obtain⟨q1,h1,hq⟩:=Za hq;obtain⟨q2,h2,hq⟩:=Za hq;split at hq
   ·rename_i hc;obtain⟨hl,hc⟩:=hc;cases hq;have ah:Zr (XX Γ w I) [.own id0] [u]:=⟨hr.1,trivial⟩
    have ag:u.cells.toList=[u]:=by obtain⟨_,_,_,_,_,rfl⟩:=hr.1;rfl
    obtain⟨B1,j1,j2,j3,j4⟩:=ZfF h ah h1;obtain⟨B2,k1,k2,k3,k4,k5,k6⟩:=Zeu h hr.2 h2;have ab:u.cells.size=s:=by
     have:=j1.length;rw[← KW,ag];simp at this ⊢;omega
    refine⟨B1++B2,Lw.2 ⟨j2,k1,fun b hb b' ai e=>?_⟩,fun b hb=>?_,fun b hb=>?_,fun u' hu=>?_,by simp[k5],fun w' g o hk ad=>?_⟩
    ·subst e;obtain⟨id,aa,o,hl,aj⟩:=j4 b hb;obtain⟨ak,ae,o',al,af⟩:=k3 b ai;have:=h.inj id ak o o' b hl al aj af;subst this;simp only[KH] at hc;have:(q1.2.any q2.2.contains)=true:=Lt.2 ⟨id,aa,by simpa using ae⟩;rw[this] at hc;cases hc
    ·rcases Kc.1 hb with hb | hb
     ·exact j3 b hb
     ·exact k2 b hb
    ·rcases Kc.1 hb with hb | hb
     ·obtain⟨id,aa,hh⟩:=j4 b hb;exact⟨id,by simp[aa],hh⟩
     ·obtain⟨id,aa,hh⟩:=k3 b hb;exact⟨id,by simp[aa],hh⟩
    ·rcases Ke.1 hu with rfl | hu
     ·exact ab
     ·exact k4 u' hu
    ·simp only[Kn,K0,ag] at ad;simp only[ZP];refine⟨[u],B1,B2,rfl,by rw[← ag,KW];exact ab,fun j u' hu=>ad j u' ?_,Zj8 (j1.mono fun b hb=>hk b (by simp[hb])),k6 w' g (o+s) (fun b hb=>hk b (by simp[hb])) fun j u' hu=>?_⟩
     ·rw[Ku (Kd.1 hu).1];exact hu
     ·have:=ad ([u].length+j) u' (by rw[Kv (by omega),Lg];exact hu)
      rwa [← KK,show [u].length=s by rw[← ag,KW];exact ab] at this
   ·cases hq
  | _=>simp[Yn] at hq
theorem Sim.newTree (h:Sim nt F A I Γ U sl hp a w) {base:Nat} (hb:QJ U base) {dels:List Nat} {w' : World} {g n c sz ns:Nat} {xs:List D} {B:List Nat} {cur:Array Value} {e:TypeId} (al:w.heap.size≤w'.heap.size) (am:w'.os=w.os) (ab:w'.tape=w.tape) (af:w'.output=w.output)
  (ag:∀ k,k<w.heap.size→k≠g→w'.heap[k]?=w.heap[k]?) (ad:w.heap.size≤g∨∃ id∈dels,∃ o,lkp hp id=some o∧Blk Γ w id o g) (ak:¬I g) (an:F g)
  (hn:n=xs.length) (hc:0<c) (ae:w'.heap[g]?=some (.cells cur e (0,0))) (ao:n≤c) (ap:c≤maxLen) (aq:cur.size=c*sz) (ah:0<sz) (hT:ZP w' ns B g sz xs 0) (ar:(g :: B).Nodup)
  (hB:∀ b∈B,¬I b∧F b) (au:∀ b∈B,∃ id∈dels,∃ o,lkp hp id=some o∧Blk Γ w id o b) {dst:Option Nat} (hd:Qv nt dst=true) :
  YB nt F A I Γ w (W3 U base) (Zk sl dst (.own base)) (Zd (ZU hp dels) [(base,.tree sz ns xs none)]) (a.put dst (.slice (some ⟨g,0,none⟩) n c)) w':=by
 have ai:∀ k,k<w.heap.size→w'.heap[k]?=w.heap[k]?∨(∃ id∈dels,∃ o,lkp hp id=some o∧Blk Γ w id o k)∧¬I k:=by
  intro k hk;by_cases e:k=g
  ·subst e;rcases ad with ad | ad
   ·omega
   ·exact .inr ⟨ad,ak⟩
  ·exact .inl (ag k hk e)
 refine h.takes hb (r:=.row (some ⟨g,0,none⟩) n c sz) al am ab af ai ?_ ⟨_,_,_,_,Zz _ _ _,rfl⟩ hd ?_
 ·refine⟨_,_,_,Zz _ _ _,⟨hn,.inr ⟨g,cur,e,B,rfl,hc,ae,ao,ap,aq,ah,hT,ar,fun b hb=>?_⟩⟩,trivial⟩;rcases Ke.1 hb with rfl | hb
  ·exact⟨ak,an⟩
  ·exact hB b hb
 ·intro b aa;rcases aa with aa | ⟨g',B',aj,av,aa⟩ | aa
  ·rw[Us,Zz] at aa;simp[Zq,Ky hc] at aa;subst aa;exact ad
  ·rw[Zz] at aj;simp[Zq,Ky hc] at aj;subst aj;cases ZP.uniq hT av;exact .inr (au b aa)
  ·exact aa.elim
theorem ZrS (h:Sim nt F A I Γ U sl hp a w) {o:Oper} {t e:TypeId} {n ns:Nat} {ps:Array (Nat×Operand)} {ys:List Opd} (ho:o.op=.buildSlice t n ps) (he:Xw P t=some e)
  (am:Qi (fun q:Nat×Operand=>ZO q.2) ps.toList=some ys) (ah:ps.toList.map (·.1)=List.range n) (ab:n*P.cellsOf e≤16777216) (ai:VT P e=true) {base:Nat} (hb:QJ U base) (hd:Qv nt o.dst=true)
  {ce:Zb} (hv:buildT hp base (P.cellsOf e) ns (evL sl ys)=some ce):ZaP P nt F A I Γ U sl hp a w o base ce:=by
 obtain⟨i,z,hi,hz,ap,af,aa,ag⟩:=Yi ai;have hr:∀ {ps:List (Nat×Operand)} {ys:List Opd},Qi (fun q:Nat×Operand=>ZO q.2) ps=some ys→Zr (Rep Γ w I) (evL sl ys) (ps.map fun x=>a.eval x.2):=by
  intro ps
  induction ps with
  | nil=>intro ys hy;simp only[Qi] at hy;cases hy;exact trivial
  | cons p ps ih=>
   intro ys hy;simp only[Qi] at hy;obtain⟨y,h1,hy⟩:=Za hy;obtain⟨aq,h2,hy⟩:=Za hy;cases hy;exact⟨h.slOK.ev h1,ih h2⟩
 have ad:=hr am;have hn:n=ps.toList.length:=by have:=congrArg List.length ah;simpa using this.symm
 unfold buildT at hv;split at hv
 ·rename_i aj;obtain⟨q,h1,hv⟩:=Za hv;cases hv;obtain⟨B,k1,k2,k3,k4,k5,k6⟩:=Zeu h ad h1;obtain⟨cells,h2,h3,h4⟩:=Zhd (w:=w) (a:=a) ho he ah ab ai k4;have an:0<n:=by
   have:=ad.length;simp only[Kt] at this;rw[← hn] at this;rcases Lr n with h0 | h0
   ·rw[h0] at this;rw[Ko this] at aj;cases aj
   ·exact h0
  refine⟨_,_,.inl h2,?_⟩;rw[QO];have ak : (w.alloc (.cells cells e)).heap[w.heap.size]?=some (.cells cells e (0,0)):=heap_alloc_new w _;have ae:∀ k,k<w.heap.size→(w.alloc (.cells cells e)).heap[k]?=w.heap[k]?:=fun k hk=>XB w _ k hk;have al:∀ b∈B,b<w.heap.size:=fun b hb=>by
   obtain⟨id,_,o,hl,ao⟩:=k3 b hb;exact h.blk_lt hl ao
  refine h.newTree hb (w':=w.alloc (.cells cells e)) (by simp) rfl rfl rfl (fun k hk _=>ae k hk) (.inl (Kh _)) (fun hi=>absurd (h.bound _ hi) (by omega)) (h.fresh _ (Kh _)) (by rw[k5,hn,Kt]) an ak (Kh _)
   (by rw[aa] at ab;have:=Nat.le_mul_of_pos_right n af;simp only[maxLen];omega) h3 (by omega) (k6 _ _ 0 (fun b hb=>ae b (al b hb)) fun j u hu=>?_) (KY.2 ⟨fun hm=>absurd (al _ hm) (by omega),k1⟩) k2 k3 hd
  rw[cell_of_row _ _ _ _ _ _ ak];simpa using h4 j u hu
 ·cases hv
theorem ZuE (h:Sim nt F A I Γ U sl hp a w) {o:Oper} {x:Operand} {y:Opd} {s n:Nat} (ho:o.op=.assign x) (hc:ZO x=some y) {base:Nat} (hb:QJ U base) (hd:Qv nt o.dst=true) {ce:Zb}
  (hv:asgT base s n (evO sl y)=some ce):ZaP P nt F A I Γ U sl hp a w o base ce:=by
 unfold asgT at hv;split at hv
 ·rename_i hy;cases hv;have h1:=h.slOK.ev hc;rw[hy] at h1;obtain⟨ad,h2⟩:=h1;refine⟨a.eval x,w,.inl (by simp[execOp,ho]),?_⟩;rw[QO,h2];refine h.takes hb (w':=w) (dels:=[]) (r:=.row ad 0 0 s) (Kh _) rfl rfl rfl (fun k _=>.inl rfl) ?_ ⟨_,_,_,_,Zz _ _ _,rfl⟩ hd fun b aa=>?_
  ·exact⟨_,_,_,Zz _ _ _,⟨rfl,.inl ⟨rfl,rfl,rfl⟩⟩,trivial⟩
  ·exact(aa.nil (by rw[Zz];cases ad<;>simp[Zq])).elim
 ·cases hv
end
end Go.Abs
