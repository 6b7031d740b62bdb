/- Own text. -/
import Derived.Test.YtcefneehgbiebaaGreatDoorAbsStep8
set_option linter.unusedVariables false
set_option linter.unusedSimpArgs false
namespace Go.Abs
open Go
theorem ZjX {α:Type} (zc:List α):∀ (n i j:Nat),i<n→j<zc.length→((List.replicate n zc).flatten)[i*zc.length+j]?=zc[j]?
 | 0,i,j,h,_=>by omega
 | n+1,0,j,_,hj=>by rw[List.replicate_succ,KK,Nat.zero_mul,La,K8 hj]
 | n+1,i+1,j,h,hj=>by
  have e:(i+1)*zc.length+j=zc.length+(i*zc.length+j):=by rw[KH];omega
  rw[List.replicate_succ,KK,e,KQ (by omega),Lz];exact ZjX zc n i j (by omega) hj
theorem ZtJ {α:Type} (zc:List α) (n:Nat):((List.replicate n zc).flatten).length=n*zc.length:=by simp
section
variable {P:Program} {nt:Nat} {U:Nat→Prop} {F A I:Nat→Prop} {Γ:Gh} {sl:Sl} {hp:Hp} {a:Act} {w:World}
theorem ZAG (h:Sim nt F A I Γ U sl hp a w) {o:Oper} {t e:TypeId} {x:Operand} {x' : Opd} {z:Value} {d:D} (ho:o.op=.call { callee:=.builtin .clear,args := #[x],argTypes := #[t] }) (he:Yn P t=some e) (hx:Z5 x=some x')
  (hz:Zco P e=some z) (am:evD z=some d) (a8:Jz P e=true) {base:Nat} (hb:Xp U base) (hd:Xb nt o.dst=true) {ce:Zd} (hv:ZgO (Zei hp (P.cellsOf e) d (evO sl x'))=some ce):Zfh P nt F A I Γ U sl hp a w o base ce:=by
 obtain⟨i,z',hi,a9,bi,a',an,ao⟩:=VJ a8;obtain⟨i',ax,ag⟩:=Zjb hz;rw[hi] at ax;cases ax;rw[a9] at ag;cases ag;unfold ZgO at hv;obtain⟨ef,h1,hv⟩:=Za hv;cases hv;have ay:=h.slOK.ev hx;unfold Zei at h1;split at h1
 ·rename_i id off n ba;rw[ba] at ay;obtain⟨a0,m,c,sz,av,ap,h2,h3,az,h4,h5⟩:=ay;unfold Zg9 at h1;split at h1
  ·rename_i bj xs ex hl;split at h1
   ·rename_i hc;obtain⟨c1,c2,c3⟩:=hc;cases h1;obtain⟨ad,n',c',a1,hn,a2⟩:=h.objs id _ hl;rw[ap] at a1;cases a1;generalize P.cellsOf e=pe at *;subst c1;have run:∀ w' : World,(Builtin.clear_ #[t] o.type #[a.eval x]).run P w=.ok (.tuple #[]) w'→Zpe P o a w (.tuple #[]) w':=fun w' hr=>.inl (by
     simp only[execOp,ho,resolve,invoke,Sem.run_bind,Sem.run_pure,Result.andThen_ok];simp[builtin,hr])
    cases n with
    | zero=>
     refine⟨_,w,run w ?_,?_⟩
     ·rw[az];cases av<;>simp[Builtin.clear_,run_underlying (Q5 he)]
     ·rw[XA];have ah:∀ k o',lkp (Zh (Zh (Qs (Qi [] hp) []) [(id,.row sz (xs.take off++List.replicate 0 d++xs.drop (off+0)) ex false)]) []) k=some o'→lkp hp k=some o':=by
       intro k o' hk;simp only[Zh,Qs,Qi,Qm] at hk;split at hk
       ·rename_i e1;subst e1;simp at hk;rw[hl,← hk]
       ·exact hk
      exact(h.sub ah).pure (fun id hu=>.inl hu) ⟨#[],rfl,trivial⟩ hd
    | succ n=>
     rcases a2 with a2 | ⟨g,cur,e',bb,a3,hw,bc,bd,a4,ai,aj,a5,a6⟩
     ·omega
     ·subst bb;have be:av=some ⟨g,off*sz,none⟩:=by
       rcases h5 with h5 | h5
       ·rw[h5];simp[UU]
       ·omega
      subst be;simp only[Ka,Kq] at aj;have ak:z.cells.toList.length=sz:=by rw[← c2];exact(Zoj (w:=w) (S:=I) am).length
      have bf:=Zbe (w:=w) (S:=I) ak (Zoj am) (n+1);have aq:((List.replicate (n+1) z.cells.toList).flatten).length=(n+1)*sz:=by rw[ZtJ,ak]
      have ar:=ZpC bf;have bg:off*sz+(n+1)*sz≤cur.size:=by
       rw[a4,← KH];exact KF _ (by omega)
      have au:=run_storeCells_at P g (off*sz) e' ((List.replicate (n+1) z.cells.toList).flatten) 0 cur w hw (by rw[aq];simpa using bg) ar;have aa:(Builtin.zeroCells z.cells (n+1)).toList=(List.replicate (n+1) z.cells.toList).flatten:=Zfi z.cells (n+1);have al:cur.toList.take (off*sz+0)++(List.replicate (n+1) z.cells.toList).flatten++cur.toList.drop (off*sz+0+((List.replicate (n+1) z.cells.toList).flatten).length)=Qe cur.toList (off*sz) ((List.replicate (n+1) z.cells.toList).flatten):=rfl;rw[al] at au;generalize hZ:(List.replicate (n+1) z.cells.toList).flatten=Z at au aq aa al;refine⟨_,w.setRow g (Qe cur.toList (off*sz) Z).toArray,run _ ?_,?_⟩
      ·rw[az];simp[Builtin.clear_,run_underlying (Q5 he),ZeY hz,aa,au]
      ·rw[XA];have bh:¬(if ex then fun b=>I b∧A b else I) g:=by cases ex<;>simp<;>first | exact aj | exact fun hI=>absurd hI aj
       have aw:(Qe cur.toList (off*sz) Z).length=cur.size:=by rw[Zes];simp;simp;omega
       have ab:(w.setRow g (Qe cur.toList (off*sz) Z).toArray).heap[g]?=some (.cells (Qe cur.toList (off*sz) Z).toArray e' (0,0)):=setRow_heap w g cur _ e' _ hw;refine h.turn hb hl (by rw[ap];simp[ZB,KG a3]) aj a5 (adds:=[]) (Q9.refl Γ) (fun _ _=>rfl) (fun k o hk=>by simp at hk) (fun k hk=>h.names k (fun hu=>hk (.inl hu))) ?_ ⟨#[],rfl,trivial⟩ hd;refine⟨_,m,c,ap,by simp;omega,.inr ⟨g,_,e',rfl,a3,ab,bc,bd,by simp[aw,a4],ai,by simpa using aj,a5,?_⟩⟩;have keep:ZR (if ex then fun b=>I b∧A b else I) (if ex then fun b=>I b∧A b else I) w (w.setRow g (Qe cur.toList (off*sz) Z).toArray):=ZcE bh
       have ae:∀ p,(w.setRow g (Qe cur.toList (off*sz) Z).toArray).cell? ⟨g,p,none⟩=(Qe cur.toList (off*sz) Z)[p]?:=fun p=>by
        rw[cell_of_row _ _ _ _ _ _ ab];simp
       have af:∀ p,w.cell? ⟨g,p,none⟩=cur.toList[p]?:=fun p=>by rw[cell_of_row _ _ _ _ _ _ hw];simp
       rw[Ya] at a6 ⊢;have e3:xs.take off++List.replicate (n+1) d++xs.drop (off+(n+1))=Qe xs off (List.replicate (n+1) d):=by simp[Qe]
       intro k y hk;rw[e3,Zbg _ _ _ _ (by simp;omega)] at hk;simp only[L0] at hk;split at hk
       ·rename_i a7;have hy:y=d:=by
         have:=Kc hk;exact(List.mem_replicate.1 this).2
        subst hy;refine⟨z.cells.toList,ak,fun p u hu=>?_,Zoj am⟩;have hp:p<sz:=by rw[← ak];exact(Kb.1 hu).1
        have e4:0+k*sz+p=off*sz+((k-off)*sz+p):=by
         have:k=off+(k-off):=by omega
         rw[this,KH];simp;omega
        have e5:(k-off)*sz+p<(n+1)*sz:=by
         have:(k-off+1)*sz≤(n+1)*sz:=KF _ (by omega);rw[KH] at this;omega
        rw[ae,e4,Zbg _ _ _ _ (by simp;omega),Kh (by omega),Lz,← hZ];have:=ZjX z.cells.toList (n+1) (k-off) p (by omega) (by omega);rw[ak] at this;rw[this];exact hu
       ·rename_i a7;obtain⟨vs,v1,v2,v3⟩:=a6 k y hk;refine⟨vs,v1,fun p u hu=>?_,v3.mono keep⟩;have hp:p<sz:=by rw[← v1];exact(Kb.1 hu).1
        have e6:¬(off*sz≤0+k*sz+p∧0+k*sz+p<off*sz+Z.length):=by
         rintro ⟨g1,g2⟩
         rw[aq,← KH] at g2;have g3:k<off+(n+1):=by
          rcases KZ k (off+(n+1)) with h | h
          ·exact h
          ·have:=KF sz h;omega
         have g4:off≤k:=by
          rcases KZ k off with h | h
          ·have:=KF sz (show k+1≤off from h);rw[KH] at this;omega
          ·exact h
         exact a7 ⟨g4,g3⟩
        rw[ae,Zbg _ _ _ _ (by simp;omega),Ke e6,← af];exact v2 p u hu
   ·cases h1
  ·cases h1
 ·cases h1
end
end Go.Abs
set_option linter.unusedVariables false
set_option linter.unusedSimpArgs false
namespace Go.Abs
open Go
section
variable {P:Program} {nt:Nat} {U:Nat→Prop} {F A I:Nat→Prop} {Γ:Gh} {sl:Sl} {hp:Hp} {a:Act} {w:World}
theorem Sim.takes (h:Sim nt F A I Γ U sl hp a w) {base:Nat} (hb:Xp U base) {dels:List Nat} {o1:Zm} {r:Ref} {w' : World} (ay:w.heap.size≤w'.heap.size) (a2:w'.os=w.os) (af:w'.tape=w.tape) (al:w'.output=w.output)
  (ae:∀ k,k<w.heap.size→w'.heap[k]?=w.heap[k]?∨(∃ id∈dels,∃ o,lkp hp id=some o∧Blk Γ w id o k)∧¬I k)
  (a3:Wa (upd Γ base r) w' I F A base o1) {v:AV} {u:Value} {dst:Option Nat} (am:Rep (upd Γ base r) w' I v u) (an:Xb nt dst=true)
  (ao:∀ b,Blk (upd Γ base r) w' base o1 b→w.heap.size≤b∨∃ id∈dels,∃ o,lkp hp id=some o∧Blk Γ w id o b) :
  UZ nt F A I Γ w (Zad U base) (Zt sl dst v) (Zh (Qs hp dels) [(base,o1)]) (a.put dst u) w':=by
 have aa:ZR I I w w':=⟨fun _ h=>h,fun b ah=>(ae b (h.bound b ah)).elim id fun hh=>absurd ah hh.2⟩
 have hk:Q9 Γ (upd Γ base r):=Vn _ (h.names base hb.self);have hF:∀ k,k<w.heap.size→¬F k→w'.heap[k]?=w.heap[k]?:=fun k hk hf=>(ae k hk).elim id fun ⟨⟨id,_,o,hl,ab⟩,_⟩=>absurd (ZiP (h.objs id o hl) ab) hf;refine⟨I,upd Γ base r,fun id b hg=>hk _ _ hg,aa,fun _ h=>.inl h,⟨a2,af,al,ay,hF⟩,?_⟩;have ap:∀ i o,lkp (Zh (Qs hp dels) [(base,o1)]) i=some o→(i=base∧o=o1)∨(i≠base∧i∉dels∧lkp hp i=some o):=by
  intro i o hi;simp only[Zh,Qm] at hi;split at hi
  ·rename_i e;cases hi;exact .inl ⟨e.symm,rfl⟩
  ·rename_i e;obtain⟨h1,h2⟩:=Zbb _ _ _ _ hi;exact .inr ⟨fun e'=>e e'.symm,h2,h1⟩
 have ag:∀ i o b,i∉dels→lkp hp i=some o→Blk Γ w i o b→w'.heap[b]?=w.heap[b]?:=fun i o b hn hl ab=>
  (ae b (h.blk_lt hl ab)).elim id fun ⟨⟨id,aq,o',a4,ah⟩,_⟩=>absurd (h.inj i id o o' b hl a4 ab ah ▸ aq) hn
 have ai:∀ i o b,i≠base→i∉dels→lkp hp i=some o→Blk (upd Γ base r) w' i o b→Blk Γ w i o b:=fun i o b h1 h2 h3 h4=>
  h4.back (Qj _ _ h1) fun g' a5=>ag i o g' h2 h3 (.inl a5)
 refine h.next hk aa ?_ ?_ (fun b hI=>by have:=h.bound b hI;omega) ay (fun k az=>by rw[Qj _ _ (fun e=>az (.inr (by omega)))];exact h.names k (fun hu=>az (.inl hu))) am an
 ·intro i o hi;rcases ap i o hi with ⟨rfl,rfl⟩ | ⟨a6,ar,hm⟩
  ·exact a3
  ·exact(h.objs i o hm).mono hk aa fun b ab=>⟨ag i o b ar hm ab,fun h=>h⟩
 ·have ad:∀ j o' b,j∉dels→lkp hp j=some o'→Blk Γ w j o' b→Blk (upd Γ base r) w' base o1 b→False:=by
   intro j o' b hj hl ab hn;rcases ao b hn with h1 | ⟨id,aq,o,h1,h2⟩
   ·have:=h.blk_lt hl ab;omega
   ·exact hj (h.inj j id o' o b hl h1 ab h2 ▸ aq)
  intro i j o o' b hi hj au av;rcases ap i o hi with ⟨rfl,rfl⟩ | ⟨a0,aw,aj⟩<;>rcases ap j o' hj with ⟨rfl,rfl⟩ | ⟨a1,ax,ak⟩
  ·rfl
  ·exact(ad j o' b ax ak (ai j o' b a1 ax ak av) au).elim
  ·exact(ad i o b aw aj (ai i o b a0 aw aj au) av).elim
  ·exact h.inj i j o o' b aj ak (ai i o b a0 aw aj au) (ai j o' b a1 ax ak av)
def Cks (w:World) (I F A:Nat→Prop) (ns sz:Nat) (xs:List D) (os:List (List Value)):Prop:=Zu (fun x vs=>vs.length=sz∧Zu (WK w I F A ns) x.cells vs) xs os
theorem Cks.length_flatten {ns sz:Nat}:∀ {xs:List D} {cs:List (List Value)},Cks w I F A ns sz xs cs→cs.flatten.length=xs.length*sz
 | [],[],_=>by simp
 | [],_ :: _,h=>h.elim
 | _ :: _,[],h=>h.elim
 | x :: xs,c :: cs,h=>by
  simp only[KK,Kr,Kp,Cks.length_flatten (xs:=xs) h.2,h.1.1,KH];omega
theorem Cks.cell {ns sz:Nat} {xs:List D} {cs:List (List Value)} (h:Cks w I F A ns sz xs cs):∀ v∈cs.flatten,∃ y,WK w I F A ns y v:=by
 intro v hv;obtain⟨c,hc,hv⟩:=List.mem_flatten.1 hv;obtain⟨i,hi⟩:=K3 hc;obtain⟨d,_,hd⟩:=Zu.get' h i c hi;obtain⟨j,hj⟩:=K3 hv;obtain⟨d',aa,h1⟩:=hd.2.get' j v hj;exact⟨d',h1⟩
theorem Cks.conv {ns sz:Nat} {I' F' A' : Nat→Prop} {w' : World}:∀ {xs:List D} {cs:List (List Value)},Cks w I F A ns sz xs cs→(∀ v∈cs.flatten,∀ y,WK w I F A ns y v→WK w' I' F' A' ns y v)→Cks w' I' F' A' ns sz xs cs
 | [],[],_,_=>trivial
 | [],_ :: _,h,_=>h.elim
 | _ :: _,[],h,_=>h.elim
 | x :: xs,c :: cs,h,hc=>by
  refine⟨⟨h.1.1,Zu.of_get h.1.2.length fun j y v hy hv=>?_⟩,Cks.conv h.2 fun v hv=>hc v (by simp only[KK,Kg];exact .inr hv)⟩;obtain⟨v',aa,hn⟩:=h.1.2.get j y hy;rw[hv] at aa;cases aa;exact hc v (by simp only[KK,Kg];exact .inl (Kc hv)) y hn
theorem Zzl {ns:Nat} {y:D} {v:Value} (h:WK w I F A ns y v):v.oneCell'=true:=by
 cases y with
 | sl ys=>obtain⟨a,c,rfl,_⟩:=h;rfl
 | int k n=>obtain⟨_,h2⟩:=h;simp[ZQ] at h2;subst h2;rfl
 | bool k=>obtain⟨_,h2⟩:=h;simp[ZQ] at h2;subst h2;rfl
 | str k=>obtain⟨_,h2⟩:=h;simp[ZQ] at h2;obtain⟨t,h2,_⟩:=h2;subst h2;rfl
 | agg cs=>exact absurd h.1 (by simp[D.plain])
def Dis (L:List Value):Prop:=∀ (p q b:Nat) (u v:Value),L[p]?=some u→L[q]?=some v→YB u=some b→YB v=some b→p=q
theorem Zve {g n c sz ns:Nat} {xs:List D} (h:Zdf w I F A (some ⟨g,0,none⟩) n c sz ns xs) (hc:c≠0) :
  ∃ os,Cks w I F A ns sz xs os∧QE w g 0 os.flatten∧Dis os.flatten∧(∀ (p:Nat) (u:Value),os.flatten[p]?=some u→YB u≠some g)∧∀ (p:Nat) (u:Value) (b:Nat),os.flatten[p]?=some u→YB u=some b→p<xs.length*sz∧YP w g p=some b:=by
 have ae:∃ os,Cks w I F A ns sz xs os∧QE w g 0 os.flatten:=by
  have h' : ∀ i x,xs[i]?=some x→∃ vs:List Value,vs.length=sz∧QE w g (i*sz) vs∧Zu (WK w I F A ns) x.cells vs:=by
   intro i x hx;obtain⟨g',vs,hg,h1⟩:=ZcP h hx;cases hg;exact⟨vs,h1⟩
  have go:∀ (xs:List D) (o:Nat),(∀ i x,xs[i]?=some x→∃ vs:List Value,vs.length=sz∧QE w g (o+i*sz) vs∧Zu (WK w I F A ns) x.cells vs)→∃ os,Cks w I F A ns sz xs os∧QE w g o os.flatten:=by
   intro xs
   induction xs with
   | nil=>intro o _;exact⟨[],trivial,fun j u hu=>by simp at hu⟩
   | cons x xs ih=>
    intro o hx;obtain⟨c,h1,h2,h3⟩:=hx 0 x (by simp);obtain⟨cs,h5,h6⟩:=ih (o+sz) fun i y hy=>by
     obtain⟨vs,h7,h8,h9⟩:=hx (i+1) y (by simpa using hy);refine⟨vs,h7,?_,h9⟩;have:o+(i+1)*sz=o+sz+i*sz:=by rw[KH];omega
     rw[← this];exact h8
    refine⟨c :: cs,⟨⟨h1,h3⟩,h5⟩,fun j u hu=>?_⟩;simp only[KK,Ln] at hu;split at hu
    ·have:=h2 j u hu;simpa using this
    ·have:=h6 _ u hu;have he:o+sz+(j-c.length)=o+j:=by omega
     rw[← he];exact this
  obtain⟨os,h1,h2⟩:=go xs 0 fun i x hx=>by obtain⟨vs,h1,h2,h3⟩:=h' i x hx;exact⟨vs,h1,by simpa using h2,h3⟩
  exact⟨os,h1,h2⟩
 obtain⟨os,h1,h2⟩:=ae;have ad:=h1.length_flatten;have aa:∀ p u b,os.flatten[p]?=some u→YB u=some b→p<xs.length*sz∧YP w g p=some b:=fun p u b hu hb=>by
  have:=h2 p u hu;exact⟨by rw[← ad];exact(Kb.1 hu).1,Zij (by simpa using this) hb⟩
 obtain⟨hn,h3⟩:=h;rcases h3 with h3 | ⟨g',cur,e,ai,ak,hw,h4,h5,h6,aj,h8,al,ae,ab,af⟩
 ·exact absurd h3.2 hc
 ·cases ai;rw[hn] at ab af;exact⟨os,h1,h2,fun p q b u v hu hv ag ah=>ab p q b (aa p u b hu ag).1 (aa q v b hv ah).1 (aa p u b hu ag).2 (aa q v b hv ah).2,
   fun p u hu hb=>af p (aa p u g hu hb).1 (aa p u g hu hb).2,aa⟩
theorem Zst {g n c sz ns:Nat} {xs:List D} {cur:Array Value} {e:TypeId} (hn:n=xs.length) (hc:0<c) (ab:w.heap[g]?=some (.cells cur e (0,0))) (ai:n≤c) (aj:c≤maxLen) (ak:cur.size=c*sz) (ae:0<sz) (al:¬I g) (am:F g)
  {os:List (List Value)} (ah:Cks w I F A ns sz xs os) (ad:QE w g 0 os.flatten) (hd:Dis os.flatten) (an:∀ (p:Nat) (u:Value),os.flatten[p]?=some u→YB u≠some g):Zdf w I F A (some ⟨g,0,none⟩) n c sz ns xs:=by
 have af:=ah.length_flatten;have aa:∀ p b,p<n*sz→YP w g p=some b→∃ u,os.flatten[p]?=some u∧YB u=some b:=by
  intro p b hp hb;obtain⟨u,hu⟩:∃ u,os.flatten[p]?=some u:=⟨_,Kn (by rw[af,← hn];exact hp)⟩
  refine⟨u,hu,?_⟩;have:=ad p u hu;simp only[La] at this;unfold YP at hb;rw[this] at hb;exact hb
 refine⟨hn,.inr ⟨g,cur,e,rfl,hc,ab,ai,aj,ak,ae,al,am,?_,?_,?_⟩⟩
 ·have go:∀ (xs:List D) (os:List (List Value)) (o:Nat),Cks w I F A ns sz xs os→QE w g o os.flatten→∀ i x,xs[i]?=some x→∃ vs:List Value,vs.length=sz∧QE w g (o+i*sz) vs∧Zu (WK w I F A ns) x.cells vs:=by
   intro xs
   induction xs with
   | nil=>intro os o _ _ i x hx;simp at hx
   | cons y xs ih=>
    intro os o hk ad i x hx;cases os with
    | nil=>exact hk.elim
    | cons c os=>
     have h1:QE w g o c:=fun j u hu=>ad j u (by simp only[KK];rw[K8 (Kb.1 hu).1];exact hu);have h2:QE w g (o+sz) os.flatten:=fun j u hu=>by
      have:=ad (c.length+j) u (by simp only[KK];rw[KQ (by omega),Lz];exact hu);rw[← Li,hk.1.1] at this;exact this
     cases i with
     | zero=>simp at hx;subst hx;exact⟨c,hk.1.1,by simpa using h1,hk.1.2⟩
     | succ i=>
      simp at hx;obtain⟨vs,h3,h4,h5⟩:=ih os (o+sz) hk.2 h2 i x hx;refine⟨vs,h3,?_,h5⟩;have:o+(i+1)*sz=o+sz+i*sz:=by rw[KH];omega
      rw[this];exact h4
  intro i x hx;obtain⟨vs,h1,h2,h3⟩:=go xs os 0 ah ad i x hx;exact⟨vs,h1,by simpa using h2,h3⟩
 ·intro p q b hp hq h1 h2;obtain⟨u,hu,ag⟩:=aa p b hp h1;obtain⟨v,hv,ao⟩:=aa q b hq h2;exact hd p q b u v hu hv ag ao
 ·intro p hp h1;obtain⟨u,hu,ag⟩:=aa p g hp h1;exact an p u hu ag
theorem Zvf (h:Sim nt F A I Γ U sl hp a w) {ns:Nat}:∀ {cs:List AV} {vs:List Value} {q:List D×List Nat},Zu (Vj Γ w I) cs vs→Ze5 hp ns cs=some q →
  Zu (WK w I F A ns) q.1 vs∧Dis vs∧∀ (p:Nat) (u:Value) (b:Nat),vs[p]?=some u→YB u=some b→∃ id∈q.2,∃ o,lkp hp id=some o∧Blk Γ w id o b
 | [],[],q,_,hq=>by
  simp only[Ze5] at hq;cases hq;exact⟨trivial,fun p q b u v hu=>by simp at hu,fun p u b hu=>by simp at hu⟩
 | [],_ :: _,_,h,_=>h.elim
 | _ :: _,[],_,h,_=>h.elim
 | x :: cs,v :: vs,q,hr,hq=>by
  simp only[Ze5] at hq;obtain⟨q1,h1,hq⟩:=Za hq;obtain⟨q2,h2,hq⟩:=Za hq;split at hq
  ·rename_i hc;cases hq;obtain⟨k1,k2,k3⟩:=Zvf h hr.2 h2;have ah:WK w I F A ns q1.1 v∧∀ b,YB v=some b→∃ id∈q1.2,∃ o,lkp hp id=some o∧Blk Γ w id o b:=by
    have hv:=hr.1;unfold Zd0 at h1;split at h1
    ·rename_i y;split at h1
     ·rename_i hy;cases h1;obtain⟨_,am⟩:=hv;have:WK w I F A ns y v:=by cases y<;>first | exact⟨hy,am⟩ | (simp[D.plain] at hy)
      refine⟨this,fun b hb=>?_⟩;obtain⟨ys,_,_,e,_⟩:=ZsY this hb;subst e;simp[D.plain] at hy
     ·cases h1
    ·cases h1;obtain⟨ad,rfl⟩:=hv;refine⟨⟨ad,0,rfl,⟨rfl,.inl ⟨rfl,rfl⟩⟩,rfl⟩,fun b hb=>?_⟩;cases ad<;>simp[YB] at hb
    ·rename_i id;unfold Zd0.deepRow at h1;split at h1
     ·rename_i sz ys hl;split at h1
      ·rename_i ae;obtain⟨rfl,an⟩:=ae;cases h1;obtain⟨ad,n,c,ar,hg,rfl⟩:=hv;obtain⟨au,n',c',ak,al⟩:=h.objs id _ hl;rw[hg] at ak;cases ak;have hn:=al.1;subst hn;refine⟨⟨ad,c,rfl,al,an⟩,fun b hb=>⟨id,by simp,_,hl,.inl ?_⟩⟩;rw[hg];cases ad with
       | none=>simp[YB] at hb
       | some ad=>simpa [YB,ZB] using hb
      ·cases h1
     ·cases h1
    ·cases h1
   refine⟨⟨ah.1,k1⟩,?_,?_⟩
   ·have aa:∀ (p b:Nat) (u:Value),vs[p]?=some u→YB v=some b→YB u=some b→False:=by
     intro p b u hu hb af;obtain⟨id,ag,o,hl,ao⟩:=ah.2 b hb;obtain⟨ap,ai,o',aq,aj⟩:=k3 p u b hu af;have:=h.inj id ap o o' b hl aq ao aj;subst this;simp only[K4] at hc;have:(q1.2.any q2.2.contains)=true:=L6.2 ⟨id,ag,by simpa using ai⟩;rw[this] at hc;cases hc
    intro p p' b u u' hu ab hb af;cases p<;>cases p'
    ·rfl
    ·simp at hu ab;subst hu;exact(aa _ b u' ab hb af).elim
    ·simp at hu ab;subst ab;exact(aa _ b u hu af hb).elim
    ·simp at hu ab;rw[k2 _ _ b u u' hu ab hb af]
   ·intro p u b hu hb;cases p with
    | zero=>
     simp at hu;subst hu;obtain⟨id,ag,hh⟩:=ah.2 b hb;exact⟨id,by simp[ag],hh⟩
    | succ p=>
     simp at hu;obtain⟨id,ag,hh⟩:=k3 p u b hu hb;exact⟨id,by simp[ag],hh⟩
  ·cases hq
theorem Zw2 (h:Sim nt F A I Γ U sl hp a w) {o:Oper} {t e:TypeId} {n ns:Nat} {ps:Array (Nat×Operand)} {ys:List Opd} (ho:o.op=.buildSlice t n ps) (he:Yn P t=some e)
  (ax:QG (fun q:Nat×Operand=>Z5 q.2) ps.toList=some ys) (ap:ps.toList.map (·.1)=List.range n) (ah:n*P.cellsOf e≤16777216) (aq:Jz P e=true) {base:Nat} (hb:Xp U base) (hd:Xb nt o.dst=true)
  {ce:Zd} (hv:buildDp hp base (P.cellsOf e) ns (evL sl ys)=some ce):Zfh P nt F A I Γ U sl hp a w o base ce:=by
 obtain⟨i,z,hi,hz,a2,ay,ai,aj⟩:=VJ aq;have hr:∀ {ps:List (Nat×Operand)} {ys:List Opd},QG (fun q:Nat×Operand=>Z5 q.2) ps=some ys→Zu (Rep Γ w I) (evL sl ys) (ps.map fun x=>a.eval x.2):=by
  intro ps
  induction ps with
  | nil=>intro ys hy;simp only[QG] at hy;cases hy;exact trivial
  | cons p ps ih=>
   intro ys hy;simp only[QG] at hy;obtain⟨y,h1,hy⟩:=Za hy;obtain⟨a3,h2,hy⟩:=Za hy;cases hy;exact⟨h.slOK.ev h1,ih h2⟩
 have aa:=hr ax;have hn:n=ps.toList.length:=by have:=congrArg List.length ap;simpa using this.symm
 unfold buildDp at hv;split at hv
 ·rename_i cs az;rw[az] at aa;obtain⟨q,h1,hv⟩:=Za hv;split at hv
  ·rename_i ak;cases hv;have ab:ps.toList.map (fun x=>a.eval x.2)=[a.eval (ps.toList.headD (0,.const .nilIface)).2]∧n=1:=by
    cases hp' : ps.toList with
    | nil=>rw[hp'] at aa;exact aa.elim
    | cons p r=>cases r with
     | nil=>rw[hp'] at hn;exact⟨rfl,hn⟩
     | cons _ _=>rw[hp'] at aa;exact aa.2.elim
   obtain⟨ab,rfl⟩:=ab;generalize a.eval (ps.toList.headD (0,.const .nilIface)).2=u0 at ab;have af:=ZmQ (w:=w) (a:=a) ho he ap ah aq;rw[ab] at aa af;obtain⟨vs,rfl,a0⟩:=aa.1;obtain⟨k1,k2,k3⟩:=Zvf h a0 h1;have al:vs.toList.length=P.cellsOf e:=by rw[← ak];exact k1.length.symm
   obtain⟨cells,h2,h3,h4⟩:=af (by intro v hv;simp at hv;subst hv;simpa [Value.cells] using al);simp only[Kj,Kx,KK,List.flatten_nil,KY,Value.cells] at h4;refine⟨_,_,.inl h2,?_⟩;rw[XA];have ar : (w.alloc (.cells cells e)).heap[w.heap.size]?=some (.cells cells e (0,0)):=heap_alloc_new w _;have ad:∀ k,k<w.heap.size→(w.alloc (.cells cells e)).heap[k]?=w.heap[k]?:=fun k hk=>YZ w _ k hk;have au:∀ (p:Nat) (u:Value) (b:Nat),vs.toList[p]?=some u→YB u=some b→b<w.heap.size:=fun p u b hu hb=>by
    obtain⟨id,_,o,hl,a1⟩:=k3 p u b hu hb;exact h.blk_lt hl a1
   have am:Cks (w.alloc (.cells cells e)) I F A ns (P.cellsOf e) [.agg q.1] [vs.toList]:=by
    refine⟨⟨al,Zu.of_get k1.length fun j y v hy hv=>?_⟩,trivial⟩;obtain⟨v',av,hn⟩:=k1.get j y hy;rw[hv] at av;cases av;exact hn.mono ⟨fun _ h=>h,fun b hb=>ad b (h.bound b hb)⟩ fun b hb=>⟨ad b (au j v b hv hb),fun h=>h⟩
   have an:[vs.toList].flatten=vs.toList:=by simp
   have aw:QE (w.alloc (.cells cells e)) w.heap.size 0 vs.toList:=fun j u hu=>by
    rw[cell_of_row _ _ _ _ _ _ ar];simpa using h4 j u hu
   refine h.takes hb (w':=w.alloc (.cells cells e)) (dels:=q.2) (r:=.row (some ⟨w.heap.size,0,none⟩) 1 1 (P.cellsOf e)) (by simp) rfl rfl rfl (fun k hk=>.inl (ad k hk)) ?_ ⟨_,_,_,_,ZK _ _ _,rfl⟩ hd ?_
   ·refine⟨_,1,1,ZK _ _ _,Zst rfl (by omega) ar (Kt _) (by simp[maxLen]) h3 (by omega) (fun hi=>absurd (h.bound _ hi) (by omega)) (h.fresh _ (Kt _)) am (by rw[an];exact aw) (by rw[an];exact k2) (fun p u hu hb=>?_),trivial⟩;rw[an] at hu;have:=au p u _ hu hb;omega
   ·intro b ae;rcases ae with ae | ⟨g,p,hg,hp',ao⟩ | ae
    rotate_right
    ·exact ae.elim
    ·rw[ZK] at ae;simp[ZB] at ae;omega
    ·rw[ZK] at hg;simp[ZB] at hg;subst hg;have ag : p<vs.toList.length:=by rw[al];simpa using hp'
     have:=aw p _ (Kn ag);simp only[La] at this;unfold YP at ao;rw[this] at ao;exact .inr (k3 p _ b (Kn ag) ao)
  ·cases hv
 ·cases hv
theorem ZAH (h:Sim nt F A I Γ U sl hp a w) {o:Oper} {x:Operand} {y:Opd} {s n:Nat} (ho:o.op=.assign x) (hc:Z5 x=some y) {base:Nat} (hb:Xp U base) (hd:Xb nt o.dst=true) {ce:Zd}
  (hv:asgDp base s n (evO sl y)=some ce):Zfh P nt F A I Γ U sl hp a w o base ce:=by
 unfold asgDp at hv;split at hv
 ·rename_i hy;cases hv;have h1:=h.slOK.ev hc;rw[hy] at h1;obtain⟨ad,h2⟩:=h1;refine⟨a.eval x,w,.inl (by simp[execOp,ho]),?_⟩;rw[XA,h2];refine h.takes hb (w':=w) (dels:=[]) (r:=.row ad 0 0 s) (Kt _) rfl rfl rfl (fun k _=>.inl rfl) ?_ ⟨_,_,_,_,ZK _ _ _,rfl⟩ hd fun b aa=>?_
  ·exact⟨_,_,_,ZK _ _ _,⟨rfl,.inl ⟨rfl,rfl⟩⟩,trivial⟩
  ·exact(aa.nil (by rw[ZK];cases ad<;>simp[ZB])).elim
 ·cases hv
end
end Go.Abs
