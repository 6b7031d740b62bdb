/- Own text. -/
import Derived.Test.YtefabmohhbhlfaaAbsStep5
set_option linter.unusedVariables false
set_option linter.unusedSimpArgs false
namespace Go.Abs
open Go
section
variable {P:Program} {nt:Nat} {U:Nat→Prop} {F A I:Nat→Prop} {Γ:Gh} {sl:Sl} {hp:Hp} {a:Act} {w:World}
theorem Sim.turnT (h:Sim nt F A I Γ U sl hp a w) {base:Nat} {id:Nat} {dels:List Nat} (a6:id∉dels) {o0 o1:Zh} (hl:lkp hp id=some o0) {g:Nat} (hg:Za3 (Γ id) o0=some g) (ap:¬I g) (aq:F g) {cur:Array Value}
  (ar:XF Γ (w.setRow g cur) I F A id o1) {v:AV} {u:Value} {dst:Option Nat} (ad:Rep Γ (w.setRow g cur) I v u) (ae:Qm nt dst=true)
  (au:∀ b,Blk Γ (w.setRow g cur) id o1 b→∃ k∈id :: dels,∃ o,lkp hp k=some o∧Blk Γ w k o b) :
  X9 nt F A I Γ w (Wb U base) (Zi sl dst v) (Zd (ZP hp dels) [(id,o1)]) (a.put dst u) (w.setRow g cur):=by
 have ab:∀ k,k≠g→(w.setRow g cur).heap[k]?=w.heap[k]?:=fun k hk=>setRow_other w g k cur hk;have aa:ZB I I w (w.setRow g cur):=⟨fun _ h=>h,fun b av=>ab b fun e=>ap (e ▸ av)⟩
 have af:(w.setRow g cur).heap.size=w.heap.size:=size_setRow w g cur;refine⟨I,Γ,ZY.refl Γ,aa,fun _ h=>.inl h,⟨rfl,rfl,rfl,by rw[af];exact Kh _,fun k _ aw=>ab k fun e=>aw (e ▸ aq)⟩,?_⟩;have ag:∀ i o,lkp (Zd (ZP hp dels) [(id,o1)]) i=some o→(i=id∧o=o1)∨(i≠id∧i∉dels∧lkp hp i=some o):=by
  intro i o hi;simp only[Zd,ZW] at hi;split at hi
  ·rename_i e;cases hi;exact .inl ⟨e.symm,rfl⟩
  ·rename_i e;obtain⟨h1,h2⟩:=YO _ _ _ _ hi;exact .inr ⟨fun e'=>e e'.symm,h2,h1⟩
 have ah:∀ i o b,i≠id→lkp hp i=some o→Blk Γ (w.setRow g cur) i o b→Blk Γ w i o b:=fun i o b h1 h3 h4=>
  h4.back (h.objs i o h3) rfl fun g' ax=>ab g' fun e=>h1 (h.inj i id o o0 g h3 hl (e ▸ ax) (.inl hg))
 refine h.next (ZY.refl Γ) aa ?_ ?_ (fun b hI=>by rw[af];exact h.bound b hI) (by rw[af];exact Kh _) (fun k ay=>h.names k (fun hu=>ay (.inl hu))) ad ae
 ·intro i o hi;rcases ag i o hi with ⟨rfl,rfl⟩ | ⟨az,a0,hm⟩
  ·exact ar
  ·exact(h.objs i o hm).mono (ZY.refl Γ) aa fun b a1=>⟨ab b fun e=>az (h.inj i id o o0 g hm hl (e ▸ a1) (.inl hg)),fun h=>h⟩
 ·have am:∀ j o' b,j≠id→j∉dels→lkp hp j=some o'→Blk Γ (w.setRow g cur) j o' b→Blk Γ (w.setRow g cur) id o1 b→False:=by
   intro j o' b h1 h2 h3 h4 h5;obtain⟨k,hk,ok,a2,a3⟩:=au b h5;have:=h.inj j k o' ok b h3 a2 (ah j o' b h1 h3 h4) a3;subst this;rcases Kf.1 hk with hk | hk
   ·exact h1 hk
   ·exact h2 hk
  intro i j o o' b hi hj ai aj;rcases ag i o hi with ⟨rfl,rfl⟩ | ⟨an,a4,ak⟩<;>rcases ag j o' hj with ⟨rfl,rfl⟩ | ⟨ao,a5,al⟩
  ·rfl
  ·exact(am j o' b ao a5 al aj ai).elim
  ·exact(am i o b an a4 ak ai aj).elim
  ·exact h.inj i j o o' b ak al (ah i o b an ak ai) (ah j o' b ao al aj)
theorem Zj4 {S:Nat→Prop} {ns:Nat} {d:D} {v:Value} (hp:d.plain=true) (h:ZH w S d [v]):Z6 w ns [] d v:=by
 cases d with
 | sl ys=>cases hp
 | agg cs=>cases hp
 | int k n=>simp[ZH] at h;subst h;simp[Z6]
 | bool b=>simp[ZH] at h;subst h;simp[Z6]
 | str s=>simp only[ZH] at h;obtain⟨t,e,ht⟩:=h;cases e;simp only[Z6];exact⟨⟨t,rfl,ht⟩,trivial⟩
theorem Zj5 {S:Nat→Prop} {ns:Nat}:∀ {ds:List D} {vs:List Value},Wr D.plain ds=true→Qu w S ds vs→ZV w ns [] ds vs
 | [],vs,_,h=>by simp only[Qu] at h;subst h;simp[ZV]
 | d :: ds,vs,hp,h=>by
  simp only[Wr,Kb] at hp;simp only[Qu] at h;obtain⟨v,r,rfl,_,h2,h3⟩:=h;simp only[ZV];exact⟨v,r,[],[],rfl,rfl,Zj4 hp.1 h2,Zj5 hp.2 h3⟩
theorem Zq6 {S:Nat→Prop} {ns:Nat} {x:D} {vs:List Value} (hf:x.flat=true) (h:ZH w S x vs):QH w ns [] x vs:=by
 cases x with
 | sl ys=>simp[D.flat,D.cells,Wr,D.plain] at hf
 | agg cs=>simp only[QH];exact Zj5 hf (by simpa only[ZH] using h)
 | int k n=>simp only[ZH] at h;simp only[QH];exact⟨h,trivial⟩
 | bool b=>simp only[ZH] at h;simp only[QH];exact⟨h,trivial⟩
 | str s=>simp only[ZH] at h;simp only[QH];obtain⟨t,h,ht⟩:=h;exact⟨⟨t,h,ht⟩,trivial⟩
theorem ZeQ {S:Nat→Prop} {ns g sz:Nat}:∀ {xs:List D} {o:Nat},Wr D.flat xs=true→Vf w S g sz xs o→ZK w ns [] g sz xs o
 | [],o,_,_=>by simp[ZK]
 | x :: xs,o,hf,h=>by
  simp only[Wr,Kb] at hf;simp only[Vf] at h;obtain⟨⟨vs,h1,h2,h3⟩,h4⟩:=h;simp only[ZK];exact⟨vs,[],[],rfl,h1,h2,Zq6 hf.1 h3,ZeQ hf.2 h4⟩
theorem ZdR (h:Sim nt F A I Γ U sl hp a w) {ns:Nat}:∀ {cs:List AV} {vs:List Value} {q:List D×List Nat},Zq (XA Γ w I) cs vs→Yt hp ns cs=some q →
  ∃ B,ZV w ns B q.1 vs∧B.Nodup∧(∀ b∈B,¬I b∧F b)∧∀ b∈B,∃ id∈q.2,∃ o,lkp hp id=some o∧Blk Γ w id o b
 | [],[],q,_,hq=>by
  simp only[Yt] at hq;cases hq;exact⟨[],by simp[ZV],Lm,fun b hb=>by simp at hb,fun b hb=>by simp at hb⟩
 | [],_ :: _,_,h,_=>h.elim
 | _ :: _,[],_,h,_=>h.elim
 | x :: cs,v :: vs,q,hr,hq=>by
  simp only[Yt] at hq;obtain⟨q1,h1,hq⟩:=Za hq;obtain⟨q2,h2,hq⟩:=Za hq;split at hq
  ·rename_i hc;cases hq;obtain⟨B2,k1,k2,k3,k4⟩:=ZdR h hr.2 h2;have aj:∃ B1,Z6 w ns B1 q1.1 v∧B1.Nodup∧(∀ b∈B1,¬I b∧F b)∧∀ b∈B1,∃ id∈q1.2,∃ o,lkp hp id=some o∧Blk Γ w id o b:=by
    have hv:=hr.1;unfold Zbg at h1;split at h1
    ·rename_i y;split at h1
     ·rename_i hy;cases h1;exact⟨[],Zj4 hy hv.2,Lm,fun b hb=>by simp at hb,fun b hb=>by simp at hb⟩
     ·cases h1
    ·cases h1;obtain⟨ad,rfl⟩:=hv;exact⟨[],by simp only[Z6];exact⟨ad,0,rfl,Kh _,.inl ⟨rfl,trivial⟩⟩,Lm,fun b hb=>by simp at hb,fun b hb=>by simp at hb⟩
    ·rename_i id;obtain⟨ad,n,c,aq,hg,rfl⟩:=hv;unfold ZbZ at h1;split at h1
     ·rename_i sz ys hl;split at h1
      ·rename_i aa;obtain⟨rfl,ak⟩:=aa;cases h1;obtain⟨al,n',c',ae,ab⟩:=h.objs id _ hl;rw[hg] at ae;cases ae;obtain⟨rfl,ab⟩:=ab;rcases ab with ab | ⟨g,q0,cur,e,rfl,p1,p2,p3,p4,p5,p6,p7,p8,p9⟩
       ·exact⟨[],by simp only[Z6];exact⟨ad,c,rfl,by omega,.inl ⟨ab.2,trivial⟩⟩,Lm,fun b hb=>by simp at hb,fun b hb=>by simp at hb⟩
       ·obtain⟨p5,h0⟩:=p5;obtain rfl:=h0 rfl;rw[Lo] at p5;refine⟨[g],by simp only[Z6];exact⟨_,c,rfl,p3,.inr ⟨g,cur,e,[],rfl,p1,p2,p4,p5,p6,rfl,ZeQ ak p9⟩⟩,by simp,fun b hb=>?_,fun b hb=>?_⟩
        ·simp at hb;subst hb;exact⟨by simpa using p7,p8⟩
        ·simp at hb;subst hb;exact⟨id,by simp,_,hl,.inl (by rw[hg];simp[Zp,Ku p1])⟩
      ·cases h1
     ·rename_i sz n' ys hl;split at h1
      ·rename_i aa;obtain⟨rfl,rfl⟩:=aa;cases h1;obtain⟨al,m,c',ae,ab,_⟩:=h.objs id _ hl;rw[hg] at ae;cases ae;obtain⟨rfl,ab⟩:=ab;rcases ab with ab | ⟨g,cur,e,B,rfl,p1,p2,p3,p4,p5,p6,p7,p8,p9⟩
       ·exact⟨[],by simp only[Z6];exact⟨ad,c,rfl,by omega,.inl ⟨ab.2.1,trivial⟩⟩,Lm,fun b hb=>by simp at hb,fun b hb=>by simp at hb⟩
       ·have ai:Zp (Γ id)=some g:=by rw[hg];simp[Zp,Ku p1]
        refine⟨g :: B,by simp only[Z6];exact⟨_,c,rfl,p3,.inr ⟨g,cur,e,B,rfl,p1,p2,p4,p5,p6,rfl,p7⟩⟩,p8,p9,fun b hb=>?_⟩;rcases Kf.1 hb with rfl | hb
        ·exact⟨id,by simp,_,hl,.inl ai⟩
        ·exact⟨id,by simp,_,hl,.inr (.inl ⟨g,B,ai,p7,hb⟩)⟩
      ·cases h1
     ·cases h1
    ·cases h1
   obtain⟨B1,j1,j2,j3,j4⟩:=aj;refine⟨B1++B2,by simp only[ZV];exact⟨v,vs,B1,B2,rfl,rfl,j1,k1⟩,LJ.2 ⟨j2,k2,fun b hb b' am e=>?_⟩,fun b hb=>?_,fun b hb=>?_⟩
   ·subst e;obtain⟨id,af,o,hl,an⟩:=j4 b hb;obtain⟨ao,ag,o',ap,ah⟩:=k4 b am;have:=h.inj id ao o o' b hl ap an ah;subst this;simp only[KO] at hc;have:(q1.2.any q2.2.contains)=true:=Lr.2 ⟨id,af,by simpa using ag⟩;rw[this] at hc;cases hc
   ·rcases Kd.1 hb with hb | hb
    ·exact j3 b hb
    ·exact k3 b hb
   ·rcases Kd.1 hb with hb | hb
    ·obtain⟨id,af,hh⟩:=j4 b hb;exact⟨id,by simp[af],hh⟩
    ·obtain⟨id,af,hh⟩:=k4 b hb;exact⟨id,by simp[af],hh⟩
  ·cases hq
theorem Zca {g sz ns j off:Nat} {xs cs ds:List D} {us:List Value} {B Bq:List Nat} {cur:Array Value} {e:TypeId} (hw:w.heap[g]?=some (.cells cur e (0,0))) (hE:ZK w ns B g sz xs 0) (hx:xs[j]?=some (.agg cs)) (an:cs.length=sz)
  (ah:off+us.length≤sz) (hq:ZV w ns Bq ds us) (ai:g∉B) (aj:g∉Bq) (ao:j*sz+sz≤cur.size) :
  ∃ B' BM vm,ZK (w.setRow g (Zn cur.toList (j*sz+off) us).toArray) ns B' g sz (xs.set j (.agg (Zn cs off ds))) 0∧(∀ x,List.count x B'+List.count x BM=List.count x B+List.count x Bq) ∧
   ZV w ns BM ((cs.drop off).take us.length) vm∧Z7 w g (j*sz+off) vm:=by
 generalize ag : w.setRow g (Zn cur.toList (j*sz+off) us).toArray=w';have ab:∀ k,k≠g→w'.heap[k]?=w.heap[k]?:=fun k hk=>by rw[← ag];exact setRow_other w g k _ hk
 have ae:w'.heap[g]?=some (.cells (Zn cur.toList (j*sz+off) us).toArray e (0,0)):=by rw[← ag];exact setRow_heap w g cur _ e _ hw
 have ad:∀ p,w'.cell? ⟨g,p,none⟩=(Zn cur.toList (j*sz+off) us)[p]?:=fun p=>by rw[cell_of_row _ _ _ _ _ _ ae];simp
 have aa:∀ p,w.cell? ⟨g,p,none⟩=cur.toList[p]?:=fun p=>by rw[cell_of_row _ _ _ _ _ _ hw];simp
 obtain⟨vs,B1,Bn,B2,rfl,v1,v2,v3,put⟩:=hE.at hx;have ak:=hq.length;have v4:=v3.cells;simp only[D.cells] at v4;have e1:cs=cs.take off++((cs.drop off).take us.length++(cs.drop off).drop us.length):=by rw[Ll us.length (cs.drop off),Ll off cs]
 rw[e1] at v4;obtain⟨BA,ap,rfl,w1,w2⟩:=v4.split;obtain⟨BM,BC,rfl,w3,w4⟩:=w2.split;have t1:(cs.take off).length=off:=by simp;omega
 have t2:((cs.drop off).take us.length).length=us.length:=by simp;omega
 rw[t1] at w1 w4;rw[t2] at w4;have af:∀ b,b∈B1++(BA++(BM++BC))++B2→b≠g:=fun b hb e=>ai (e ▸ hb);have k1:ZV w' ns BA (cs.take off) (vs.take off):=w1.mono fun b hb=>ab b (af b (by simp[hb]));have k2:ZV w' ns Bq ds us:=hq.mono fun b hb=>ab b fun e=>aj (e ▸ hb);have k3:ZV w' ns BC ((cs.drop off).drop us.length) ((vs.drop off).drop us.length):=w4.mono fun b hb=>ab b (af b (by simp[hb]));have k4:=(k1.append k2).append k3;have e2:cs.take off++ds++(cs.drop off).drop us.length=Zn cs off ds:=by simp[Zn,Ly,ak]
 have e3:vs.take off++us++(vs.drop off).drop us.length=Zn vs off us:=by simp[Zn,Ly]
 rw[e2,e3] at k4;refine⟨B1++(BA++Bq++BC)++B2,BM,_,put w' _ (.agg (Zn cs off ds)) (Zn vs off us) (fun b hb=>ab b (af b ?_)) (fun p v hp hv=>?_) ?_ (fun p u hu=>?_) (ZhO k4),fun x=>?_,w3,fun p u hu=>?_⟩
 ·rcases Kd.1 hb with hb | hb<;>simp[hb]
 ·rw[ad,Z5 _ _ _ _ (by simp;omega),Kn (by omega),← aa];exact hv
 ·rw[Ye];exact v1;omega
 ·rw[Z5 _ _ _ _ (by omega)] at hu;rw[ad,Z5 _ _ _ _ (by simp;omega)];split at hu
  ·rename_i al;rw[Ko (by omega)];have:0+j*sz+p-(j*sz+off)=p-off:=by omega
   rw[this];exact hu
  ·rename_i al;rw[Kn (by omega),← aa];exact v2 p u hu
 ·simp only[List.count_append];omega
 ·rw[t1] at hu;have am : vs[off+p]?=some u:=by
   rw[KS] at hu;split at hu
   ·rwa [KY] at hu
   ·cases hu
  have:=v2 (off+p) u am
  rwa [Lo,← KI] at this
theorem ZhN {α:Type} (cs us:List α) (q p:Nat) (v:α) (h:q+us.length≤cs.length):Zn (cs.set p v) q us=if q≤p∧p<q+us.length then Zn cs q us else (Zn cs q us).set p v:=by
 refine Lj fun k=>?_;rw[Z5 _ _ _ _ (by simpa using h)];split
 ·rename_i hk;split
  ·rw[Z5 _ _ _ _ h,Ko hk]
  ·rename_i hp;rw[K8 (fun e:p=k=>hp (by rw[e];exact hk)),Z5 _ _ _ _ h,Ko hk]
 ·rename_i hk;split
  ·rename_i hp;rw[K8 (fun e:p=k=>hk (by rw[← e];exact hp)),Z5 _ _ _ _ h,Kn hk]
  ·by_cases e:p=k
   ·subst e;simp only[LA,Kk,Ye _ _ _ h]
   ·rw[K8 e,K8 e,Z5 _ _ _ _ h,Kn hk]
theorem Zk5 {xs:List D} {i j c:Nat} {x' : D} {ys:List D} (h:V8 xs i c=some ys) (hx:i=j→∀ x,xs[i]?=some x→x'.cells[c]?=x.cells[c]?):V8 (xs.set j x') i c=some ys:=by
 unfold V8 at h ⊢;obtain⟨x,h1,h2⟩:=Za h;by_cases e:i=j
 ·subst e;have:=hx rfl x h1;rw[LD (Kc.1 h1).1,Zc,this];exact h2
 ·rw[K8 (fun e'=>e e'.symm),h1,Zc];exact h2
theorem ZnR {a:Option Addr} {g sz ns j off:Nat} {xs cs ds:List D} {us:List Value} {B Bq:List Nat} {cur:Array Value} {e:TypeId} {lk:Option (Option Nat×Nat×Nat)} (ha:a=some ⟨g,0,none⟩) (hw:w.heap[g]?=some (.cells cur e (0,0)))
  (hE:ZK (VH w g (X0 sz lk)) ns B g sz xs 0) (hL:Xl Γ w a sz ns xs lk) (hx:xs[j]?=some (.agg cs)) (ae:cs.length=sz)
  (ab:off+us.length≤sz) (hq:ZV w ns Bq ds us) (af:g∉B) (ad:g∉Bq) (ag:j*sz+sz≤cur.size) :
  (∃ B',ZK (VH (w.setRow g (Zn cur.toList (j*sz+off) us).toArray) g (X0 sz (V5 j off us.length lk))) ns B' g sz (xs.set j (.agg (Zn cs off ds))) 0∧∀ x,List.count x B'≤List.count x B+List.count x Bq) ∧
  Xl Γ (w.setRow g (Zn cur.toList (j*sz+off) us).toArray) a sz ns (xs.set j (.agg (Zn cs off ds))) (V5 j off us.length lk):=by
 have aj:=hq.length;cases lk with
 | none=>
  obtain⟨B',BM,_,h1,h2,_⟩:=Zca hw hE hx ae ab hq af ad ag;exact⟨⟨B',h1,fun x=>by have:=h2 x;omega⟩,trivial⟩
 | some r=>
  obtain⟨nm,i',c⟩:=r;obtain⟨l1,l2,l3,l4⟩:=hL;simp only[X0] at hE;rw[Zb3 hw] at hE;have ai:=setRow_heap w g cur (cur.setIfInBounds (i' * sz+c) (.slice none 0 0)) e (0,0) hw;obtain⟨B',BM,_,h1,h2,_⟩:=Zca ai hE hx ae ab (hq.mono fun b hb=>setRow_other w g b _ fun e=>ad (e ▸ hb)) af ad (by simpa using ag);have h2:∀ x,List.count x B'≤List.count x B+List.count x Bq:=fun x=>by have:=h2 x;omega
  rw[setRow_setRow,L2,ZhN _ _ _ _ _ (by simp;omega)] at h1;have aa:=setRow_heap w g cur (Zn cur.toList (j*sz+off) us).toArray e (0,0) hw;by_cases hc:j=i'∧off≤c∧c<off+us.length
  ·have hs:V5 j off us.length (some (nm,i',c))=none:=by simp only[V5];rw[Ko hc]
   rw[hs];obtain⟨rfl,ak,hc2⟩:=hc;rw[Ko (by omega)] at h1;exact⟨⟨B',h1,h2⟩,trivial⟩
  ·have hs:V5 j off us.length (some (nm,i',c))=some (nm,i',c):=by simp only[V5];rw[Kn hc]
   rw[hs];have hp:¬(j*sz+off≤i' * sz+c∧i' * sz+c<j*sz+off+us.length):=fun hp=>hc (by
    obtain⟨k,hk⟩:∃ k,i' * sz+c=j*sz+(off+k)∧k<us.length:=⟨i' * sz+c-(j*sz+off),by omega,by omega⟩
    obtain⟨e1,e2⟩:=Zou l2 (show off+k<sz by omega) hk.1;exact⟨e1.symm,by omega,by omega⟩)
   rw[Kn hp] at h1;refine⟨?_,by simpa using l1,l2,Zk5 l3 fun e x ah=>?_,fun k hk=>?_⟩
   ·simp only[X0];rw[Zb3 aa,setRow_setRow];have:(Zn cur.toList (j*sz+off) us).toArray.setIfInBounds (i' * sz+c) (.slice none 0 0)=((Zn cur.toList (j*sz+off) us).set (i' * sz+c) (.slice none 0 0)).toArray:=by simp
    rw[this];exact⟨B',h1,h2⟩
   ·subst e;rw[hx] at ah;cases ah;simp only[D.cells];rw[Z5 _ _ _ _ (by omega),Kn (fun hh=>hc ⟨rfl,by omega⟩)]
   ·obtain⟨g',a',n',c',h5,h6,h7⟩:=l4 k hk;rw[ha] at h5;cases h5;refine⟨g,a',n',c',ha,h6,?_⟩;rw[cell_of_row _ _ _ _ _ _ hw] at h7;rw[cell_of_row _ _ _ _ _ _ aa];have:(Zn cur.toList (j*sz+off) us).toArray[i' * sz+c]?=cur[i' * sz+c]?:=by
     rw[L0,Z5 _ _ _ _ (by simp;omega),Kn hp];simp
    rw[this];exact h7
theorem ZbC {ns:Nat}:∀ {xs:List AV} {q:List D×List Nat},Yt hp ns xs=some q→QP xs=true
 | [],q,h=>rfl
 | x :: xs,q,h=>by
  simp only[Yt] at h;obtain⟨q1,h1,h⟩:=Za h;obtain⟨q2,h2,h⟩:=Za h;simp only[QP,ZbC h2,LF];cases x<;>first | rfl | cases h1
theorem Zj6 {ns:Nat}:∀ {xs:List AV} {q:List D×List Nat},Yt hp ns xs=some q→q.1.length=xs.length
 | [],q,h=>by simp only[Yt] at h;cases h;rfl
 | x :: xs,q,h=>by
  simp only[Yt] at h;obtain⟨q1,h1,h⟩:=Za h;obtain⟨q2,h2,h⟩:=Za h;split at h
  ·cases h;simp[Zj6 h2]
  ·cases h
theorem Zj7 {ns:Nat}:∀ {xs:List AV} {vs:List Value} {q:List D×List Nat},Yt hp ns xs=some q→Zq (QT Γ w I) xs vs→Zq (XA Γ w I) xs vs
 | [],[],q,h,hr=>trivial
 | [],_ :: _,q,h,hr=>hr.elim
 | _ :: _,[],q,h,hr=>hr.elim
 | x :: xs,v :: vs,q,h,hr=>by
  simp only[Yt] at h;obtain⟨q1,h1,h⟩:=Za h;obtain⟨q2,h2,h⟩:=Za h;refine⟨?_,Zj7 h2 hr.2⟩;cases x<;>first | exact hr.1 | cases h1
end
end Go.Abs
