/- Own text. -/
import Derived.Test.YtefabmohhbhlfaaAbsStep5
set_option linter.unusedVariables false
set_option linter.unusedSimpArgs false
namespace Go.Abs
open Go
section
variable {P:Program} {nt:Nat} {U:Nat→Prop} {F A I:Nat→Prop} {Γ:Gh} {sl:Sl} {hp:Hp} {a:Act} {w:World}
theorem Sim.turnT (h:Sim nt F A I Γ U sl hp a w) {base:Nat} {id:Nat} {dels:List Nat} (a6:id∉dels) {o0 o1:Zh} (hl:lkp hp id=some o0) {g:Nat} (hg:Zan (Γ id) o0=some g) (ap:¬I g) (aq:F g) {cur:Array Value}
  (ar:Xo Γ (w.setRow g cur) I F A id o1) {v:AV} {u:Value} {dst:Option Nat} (ad:Rep Γ (w.setRow g cur) I v u) (ae:Qh nt dst=true)
  (au:∀ b,Blk Γ (w.setRow g cur) id o1 b→∃ k∈id :: dels,∃ o,lkp hp k=some o∧Blk Γ w k o b) :
  XQ nt F A I Γ w (VI U base) (Zi sl dst v) (Zd (ZN hp dels) [(id,o1)]) (a.put dst u) (w.setRow g cur):=by
 have ab:∀ k,k≠g→(w.setRow g cur).heap[k]?=w.heap[k]?:=fun k hk=>setRow_other w g k cur hk;have aa:ZB I I w (w.setRow g cur):=⟨fun _ h=>h,fun b av=>ab b fun e=>ap (e ▸ av)⟩
 have af:(w.setRow g cur).heap.size=w.heap.size:=size_setRow w g cur;refine⟨I,Γ,ZU.refl Γ,aa,fun _ h=>.inl h,⟨rfl,rfl,rfl,by rw[af];exact Kf _,fun k _ aw=>ab k fun e=>aw (e ▸ aq)⟩,?_⟩;have ag:∀ i o,lkp (Zd (ZN hp dels) [(id,o1)]) i=some o→(i=id∧o=o1)∨(i≠id∧i∉dels∧lkp hp i=some o):=by
  intro i o hi;simp only[Zd,ZS] at hi;split at hi
  ·rename_i e;cases hi;exact .inl ⟨e.symm,rfl⟩
  ·rename_i e;obtain⟨h1,h2⟩:=Yx _ _ _ _ hi;exact .inr ⟨fun e'=>e e'.symm,h2,h1⟩
 have ah:∀ i o b,i≠id→lkp hp i=some o→Blk Γ (w.setRow g cur) i o b→Blk Γ w i o b:=fun i o b h1 h3 h4=>
  h4.back (h.objs i o h3) rfl fun g' ax=>ab g' fun e=>h1 (h.inj i id o o0 g h3 hl (e ▸ ax) (.inl hg))
 refine h.next (ZU.refl Γ) aa ?_ ?_ (fun b hI=>by rw[af];exact h.bound b hI) (by rw[af];exact Kf _) (fun k ay=>h.names k (fun hu=>ay (.inl hu))) ad ae
 ·intro i o hi;rcases ag i o hi with ⟨rfl,rfl⟩ | ⟨az,a0,hm⟩
  ·exact ar
  ·exact(h.objs i o hm).mono (ZU.refl Γ) aa fun b a1=>⟨ab b fun e=>az (h.inj i id o o0 g hm hl (e ▸ a1) (.inl hg)),fun h=>h⟩
 ·have am:∀ j o' b,j≠id→j∉dels→lkp hp j=some o'→Blk Γ (w.setRow g cur) j o' b→Blk Γ (w.setRow g cur) id o1 b→False:=by
   intro j o' b h1 h2 h3 h4 h5;obtain⟨k,hk,ok,a2,a3⟩:=au b h5;have:=h.inj j k o' ok b h3 a2 (ah j o' b h1 h3 h4) a3;subst this;rcases Ke.1 hk with hk | hk
   ·exact h1 hk
   ·exact h2 hk
  intro i j o o' b hi hj ai aj;rcases ag i o hi with ⟨rfl,rfl⟩ | ⟨an,a4,ak⟩<;>rcases ag j o' hj with ⟨rfl,rfl⟩ | ⟨ao,a5,al⟩
  ·rfl
  ·exact(am j o' b ao a5 al aj ai).elim
  ·exact(am i o b an a4 ak ai aj).elim
  ·exact h.inj i j o o' b ak al (ah i o b an ak ai) (ah j o' b ao al aj)
theorem Zi7 {S:Nat→Prop} {ns:Nat} {d:D} {v:Value} (hp:d.plain=true) (h:ZG w S d [v]):ZZ w ns [] d v:=by
 cases d with
 | sl ys=>cases hp
 | agg cs=>cases hp
 | int k n=>simp[ZG] at h;subst h;simp[ZZ]
 | bool b=>simp[ZG] at h;subst h;simp[ZZ]
 | str s=>simp only[ZG] at h;obtain⟨t,e,ht⟩:=h;cases e;simp only[ZZ];exact⟨⟨t,rfl,ht⟩,trivial⟩
theorem Zi8 {S:Nat→Prop} {ns:Nat}:∀ {ds:List D} {vs:List Value},Vb D.plain ds=true→Qt w S ds vs→ZR w ns [] ds vs
 | [],vs,_,h=>by simp only[Qt] at h;subst h;simp[ZR]
 | d :: ds,vs,hp,h=>by
  simp only[Vb,Kb] at hp;simp only[Qt] at h;obtain⟨v,r,rfl,_,h2,h3⟩:=h;simp only[ZR];exact⟨v,r,[],[],rfl,rfl,Zi7 hp.1 h2,Zi8 hp.2 h3⟩
theorem Zpt {S:Nat→Prop} {ns:Nat} {x:D} {vs:List Value} (hf:x.flat=true) (h:ZG w S x vs):QF w ns [] x vs:=by
 cases x with
 | sl ys=>simp[D.flat,D.cells,Vb,D.plain] at hf
 | agg cs=>simp only[QF];exact Zi8 hf (by simpa only[ZG] using h)
 | int k n=>simp only[ZG] at h;simp only[QF];exact⟨h,trivial⟩
 | bool b=>simp only[ZG] at h;simp only[QF];exact⟨h,trivial⟩
 | str s=>simp only[ZG] at h;simp only[QF];obtain⟨t,h,ht⟩:=h;exact⟨⟨t,h,ht⟩,trivial⟩
theorem Zd8 {S:Nat→Prop} {ns g sz:Nat}:∀ {xs:List D} {o:Nat},Vb D.flat xs=true→YS w S g sz xs o→ZJ w ns [] g sz xs o
 | [],o,_,_=>by simp[ZJ]
 | x :: xs,o,hf,h=>by
  simp only[Vb,Kb] at hf;simp only[YS] at h;obtain⟨⟨vs,h1,h2,h3⟩,h4⟩:=h;simp only[ZJ];exact⟨vs,[],[],rfl,h1,h2,Zpt hf.1 h3,Zd8 hf.2 h4⟩
theorem Zdk (h:Sim nt F A I Γ U sl hp a w) {ns:Nat}:∀ {cs:List AV} {vs:List Value} {q:List D×List Nat},Zp (Xj Γ w I) cs vs→Yc hp ns cs=some q →
  ∃ B,ZR w ns B q.1 vs∧B.Nodup∧(∀ b∈B,¬I b∧F b)∧∀ b∈B,∃ id∈q.2,∃ o,lkp hp id=some o∧Blk Γ w id o b
 | [],[],q,_,hq=>by
  simp only[Yc] at hq;cases hq;exact⟨[],by simp[ZR],Lb,fun b hb=>by simp at hb,fun b hb=>by simp at hb⟩
 | [],_ :: _,_,h,_=>h.elim
 | _ :: _,[],_,h,_=>h.elim
 | x :: cs,v :: vs,q,hr,hq=>by
  simp only[Yc] at hq;obtain⟨q1,h1,hq⟩:=Za hq;obtain⟨q2,h2,hq⟩:=Za hq;split at hq
  ·rename_i hc;cases hq;obtain⟨B2,k1,k2,k3,k4⟩:=Zdk h hr.2 h2;have aj:∃ B1,ZZ w ns B1 q1.1 v∧B1.Nodup∧(∀ b∈B1,¬I b∧F b)∧∀ b∈B1,∃ id∈q1.2,∃ o,lkp hp id=some o∧Blk Γ w id o b:=by
    have hv:=hr.1;unfold ZaC at h1;split at h1
    ·rename_i y;split at h1
     ·rename_i hy;cases h1;exact⟨[],Zi7 hy hv.2,Lb,fun b hb=>by simp at hb,fun b hb=>by simp at hb⟩
     ·cases h1
    ·cases h1;obtain⟨ad,rfl⟩:=hv;exact⟨[],by simp only[ZZ];exact⟨ad,0,rfl,Kf _,.inl ⟨rfl,trivial⟩⟩,Lb,fun b hb=>by simp at hb,fun b hb=>by simp at hb⟩
    ·rename_i id;obtain⟨ad,n,c,aq,hg,rfl⟩:=hv;unfold Zbl at h1;split at h1
     ·rename_i sz ys hl;split at h1
      ·rename_i aa;obtain⟨rfl,ak⟩:=aa;cases h1;obtain⟨al,n',c',ae,ab⟩:=h.objs id _ hl;rw[hg] at ae;cases ae;obtain⟨rfl,ab⟩:=ab;rcases ab with ab | ⟨g,q0,cur,e,rfl,p1,p2,p3,p4,p5,p6,p7,p8,p9⟩
       ·exact⟨[],by simp only[ZZ];exact⟨ad,c,rfl,by omega,.inl ⟨ab.2,trivial⟩⟩,Lb,fun b hb=>by simp at hb,fun b hb=>by simp at hb⟩
       ·obtain⟨p5,h0⟩:=p5;obtain rfl:=h0 rfl;rw[KP] at p5;refine⟨[g],by simp only[ZZ];exact⟨_,c,rfl,p3,.inr ⟨g,cur,e,[],rfl,p1,p2,p4,p5,p6,rfl,Zd8 ak p9⟩⟩,by simp,fun b hb=>?_,fun b hb=>?_⟩
        ·simp at hb;subst hb;exact⟨by simpa using p7,p8⟩
        ·simp at hb;subst hb;exact⟨id,by simp,_,hl,.inl (by rw[hg];simp[Zo,Ku p1])⟩
      ·cases h1
     ·rename_i sz n' ys hl;split at h1
      ·rename_i aa;obtain⟨rfl,rfl⟩:=aa;cases h1;obtain⟨al,m,c',ae,ab,_⟩:=h.objs id _ hl;rw[hg] at ae;cases ae;obtain⟨rfl,ab⟩:=ab;rcases ab with ab | ⟨g,cur,e,B,rfl,p1,p2,p3,p4,p5,p6,p7,p8,p9⟩
       ·exact⟨[],by simp only[ZZ];exact⟨ad,c,rfl,by omega,.inl ⟨ab.2.1,trivial⟩⟩,Lb,fun b hb=>by simp at hb,fun b hb=>by simp at hb⟩
       ·have ai:Zo (Γ id)=some g:=by rw[hg];simp[Zo,Ku p1]
        refine⟨g :: B,by simp only[ZZ];exact⟨_,c,rfl,p3,.inr ⟨g,cur,e,B,rfl,p1,p2,p4,p5,p6,rfl,p7⟩⟩,p8,p9,fun b hb=>?_⟩;rcases Ke.1 hb with rfl | hb
        ·exact⟨id,by simp,_,hl,.inl ai⟩
        ·exact⟨id,by simp,_,hl,.inr (.inl ⟨g,B,ai,p7,hb⟩)⟩
      ·cases h1
     ·cases h1
    ·cases h1
   obtain⟨B1,j1,j2,j3,j4⟩:=aj;refine⟨B1++B2,by simp only[ZR];exact⟨v,vs,B1,B2,rfl,rfl,j1,k1⟩,LI.2 ⟨j2,k2,fun b hb b' am e=>?_⟩,fun b hb=>?_,fun b hb=>?_⟩
   ·subst e;obtain⟨id,af,o,hl,an⟩:=j4 b hb;obtain⟨ao,ag,o',ap,ah⟩:=k4 b am;have:=h.inj id ao o o' b hl ap an ah;subst this;simp only[KI] at hc;have:(q1.2.any q2.2.contains)=true:=Ly.2 ⟨id,af,by simpa using ag⟩;rw[this] at hc;cases hc
   ·rcases Kc.1 hb with hb | hb
    ·exact j3 b hb
    ·exact k3 b hb
   ·rcases Kc.1 hb with hb | hb
    ·obtain⟨id,af,hh⟩:=j4 b hb;exact⟨id,by simp[af],hh⟩
    ·obtain⟨id,af,hh⟩:=k4 b hb;exact⟨id,by simp[af],hh⟩
  ·cases hq
theorem Zbw {g sz ns j off:Nat} {xs cs ds:List D} {us:List Value} {B Bq:List Nat} {cur:Array Value} {e:TypeId} (hw:w.heap[g]?=some (.cells cur e (0,0))) (hE:ZJ w ns B g sz xs 0) (hx:xs[j]?=some (.agg cs)) (an:cs.length=sz)
  (ah:off+us.length≤sz) (hq:ZR w ns Bq ds us) (ai:g∉B) (aj:g∉Bq) (ao:j*sz+sz≤cur.size) :
  ∃ B' BM vm,ZJ (w.setRow g (Zk cur.toList (j*sz+off) us).toArray) ns B' g sz (xs.set j (.agg (Zk cs off ds))) 0∧(∀ x,List.count x B'+List.count x BM=List.count x B+List.count x Bq) ∧
   ZR w ns BM ((cs.drop off).take us.length) vm∧Z0 w g (j*sz+off) vm:=by
 generalize ag : w.setRow g (Zk cur.toList (j*sz+off) us).toArray=w';have ab:∀ k,k≠g→w'.heap[k]?=w.heap[k]?:=fun k hk=>by rw[← ag];exact setRow_other w g k _ hk
 have ae:w'.heap[g]?=some (.cells (Zk cur.toList (j*sz+off) us).toArray e (0,0)):=by rw[← ag];exact setRow_heap w g cur _ e _ hw
 have ad:∀ p,w'.cell? ⟨g,p,none⟩=(Zk cur.toList (j*sz+off) us)[p]?:=fun p=>by rw[cell_of_row _ _ _ _ _ _ ae];simp
 have aa:∀ p,w.cell? ⟨g,p,none⟩=cur.toList[p]?:=fun p=>by rw[cell_of_row _ _ _ _ _ _ hw];simp
 obtain⟨vs,B1,Bn,B2,rfl,v1,v2,v3,put⟩:=hE.at hx;have ak:=hq.length;have v4:=v3.cells;simp only[D.cells] at v4;have e1:cs=cs.take off++((cs.drop off).take us.length++(cs.drop off).drop us.length):=by rw[Ln us.length (cs.drop off),Ln off cs]
 rw[e1] at v4;obtain⟨BA,ap,rfl,w1,w2⟩:=v4.split;obtain⟨BM,BC,rfl,w3,w4⟩:=w2.split;have t1:(cs.take off).length=off:=by simp;omega
 have t2:((cs.drop off).take us.length).length=us.length:=by simp;omega
 rw[t1] at w1 w4;rw[t2] at w4;have af:∀ b,b∈B1++(BA++(BM++BC))++B2→b≠g:=fun b hb e=>ai (e ▸ hb);have k1:ZR w' ns BA (cs.take off) (vs.take off):=w1.mono fun b hb=>ab b (af b (by simp[hb]));have k2:ZR w' ns Bq ds us:=hq.mono fun b hb=>ab b fun e=>aj (e ▸ hb);have k3:ZR w' ns BC ((cs.drop off).drop us.length) ((vs.drop off).drop us.length):=w4.mono fun b hb=>ab b (af b (by simp[hb]));have k4:=(k1.append k2).append k3;have e2:cs.take off++ds++(cs.drop off).drop us.length=Zk cs off ds:=by simp[Zk,List.drop_drop,ak]
 have e3:vs.take off++us++(vs.drop off).drop us.length=Zk vs off us:=by simp[Zk,List.drop_drop]
 rw[e2,e3] at k4;refine⟨B1++(BA++Bq++BC)++B2,BM,_,put w' _ (.agg (Zk cs off ds)) (Zk vs off us) (fun b hb=>ab b (af b ?_)) (fun p v hp hv=>?_) ?_ (fun p u hu=>?_) (ZgY k4),fun x=>?_,w3,fun p u hu=>?_⟩
 ·rcases Kc.1 hb with hb | hb<;>simp[hb]
 ·rw[ad,ZY _ _ _ _ (by simp;omega),Kp (by omega),← aa];exact hv
 ·rw[XV];exact v1;omega
 ·rw[ZY _ _ _ _ (by omega)] at hu;rw[ad,ZY _ _ _ _ (by simp;omega)];split at hu
  ·rename_i al;rw[Kt (by omega)];have:0+j*sz+p-(j*sz+off)=p-off:=by omega
   rw[this];exact hu
  ·rename_i al;rw[Kp (by omega),← aa];exact v2 p u hu
 ·simp only[List.count_append];omega
 ·rw[t1] at hu;have am : vs[off+p]?=some u:=by
   rw[KS] at hu;split at hu
   ·rwa [KX] at hu
   ·cases hu
  have:=v2 (off+p) u am
  rwa [KP,← KD] at this
theorem ZgX {α:Type} (cs us:List α) (q p:Nat) (v:α) (h:q+us.length≤cs.length):Zk (cs.set p v) q us=if q≤p∧p<q+us.length then Zk cs q us else (Zk cs q us).set p v:=by
 refine KW fun k=>?_;rw[ZY _ _ _ _ (by simpa using h)];split
 ·rename_i hk;split
  ·rw[ZY _ _ _ _ h,Kt hk]
  ·rename_i hp;rw[K0 (fun e:p=k=>hp (by rw[e];exact hk)),ZY _ _ _ _ h,Kt hk]
 ·rename_i hk;split
  ·rename_i hp;rw[K0 (fun e:p=k=>hk (by rw[← e];exact hp)),ZY _ _ _ _ h,Kp hk]
  ·by_cases e:p=k
   ·subst e;simp only[K4,Kl,XV _ _ _ h]
   ·rw[K0 e,K0 e,ZY _ _ _ _ h,Kp hk]
theorem Zj8 {xs:List D} {i j c:Nat} {x' : D} {ys:List D} (h:VG xs i c=some ys) (hx:i=j→∀ x,xs[i]?=some x→x'.cells[c]?=x.cells[c]?):VG (xs.set j x') i c=some ys:=by
 unfold VG at h ⊢;obtain⟨x,h1,h2⟩:=Za h;by_cases e:i=j
 ·subst e;have:=hx rfl x h1;rw[Lw (Kd.1 h1).1,Zc,this];exact h2
 ·rw[K0 (fun e'=>e e'.symm),h1,Zc];exact h2
theorem Zmu {a:Option Addr} {g sz ns j off:Nat} {xs cs ds:List D} {us:List Value} {B Bq:List Nat} {cur:Array Value} {e:TypeId} {lk:Option (Option Nat×Nat×Nat)} (ha:a=some ⟨g,0,none⟩) (hw:w.heap[g]?=some (.cells cur e (0,0)))
  (hE:ZJ (Vi w g (XI sz lk)) ns B g sz xs 0) (hL:Xa Γ w a sz ns xs lk) (hx:xs[j]?=some (.agg cs)) (ae:cs.length=sz)
  (ab:off+us.length≤sz) (hq:ZR w ns Bq ds us) (af:g∉B) (ad:g∉Bq) (ag:j*sz+sz≤cur.size) :
  (∃ B',ZJ (Vi (w.setRow g (Zk cur.toList (j*sz+off) us).toArray) g (XI sz (VD j off us.length lk))) ns B' g sz (xs.set j (.agg (Zk cs off ds))) 0∧∀ x,List.count x B'≤List.count x B+List.count x Bq) ∧
  Xa Γ (w.setRow g (Zk cur.toList (j*sz+off) us).toArray) a sz ns (xs.set j (.agg (Zk cs off ds))) (VD j off us.length lk):=by
 have aj:=hq.length;cases lk with
 | none=>
  obtain⟨B',BM,_,h1,h2,_⟩:=Zbw hw hE hx ae ab hq af ad ag;exact⟨⟨B',h1,fun x=>by have:=h2 x;omega⟩,trivial⟩
 | some r=>
  obtain⟨nm,i',c⟩:=r;obtain⟨l1,l2,l3,l4⟩:=hL;simp only[XI] at hE;rw[Zbp hw] at hE;have ai:=setRow_heap w g cur (cur.setIfInBounds (i' * sz+c) (.slice none 0 0)) e (0,0) hw;obtain⟨B',BM,_,h1,h2,_⟩:=Zbw ai hE hx ae ab (hq.mono fun b hb=>setRow_other w g b _ fun e=>ad (e ▸ hb)) af ad (by simpa using ag);have h2:∀ x,List.count x B'≤List.count x B+List.count x Bq:=fun x=>by have:=h2 x;omega
  rw[setRow_setRow,L0,ZgX _ _ _ _ _ (by simp;omega)] at h1;have aa:=setRow_heap w g cur (Zk cur.toList (j*sz+off) us).toArray e (0,0) hw;by_cases hc:j=i'∧off≤c∧c<off+us.length
  ·have hs:VD j off us.length (some (nm,i',c))=none:=by simp only[VD];rw[Kt hc]
   rw[hs];obtain⟨rfl,ak,hc2⟩:=hc;rw[Kt (by omega)] at h1;exact⟨⟨B',h1,h2⟩,trivial⟩
  ·have hs:VD j off us.length (some (nm,i',c))=some (nm,i',c):=by simp only[VD];rw[Kp hc]
   rw[hs];have hp:¬(j*sz+off≤i' * sz+c∧i' * sz+c<j*sz+off+us.length):=fun hp=>hc (by
    obtain⟨k,hk⟩:∃ k,i' * sz+c=j*sz+(off+k)∧k<us.length:=⟨i' * sz+c-(j*sz+off),by omega,by omega⟩
    obtain⟨e1,e2⟩:=ZmV l2 (show off+k<sz by omega) hk.1;exact⟨e1.symm,by omega,by omega⟩)
   rw[Kp hp] at h1;refine⟨?_,by simpa using l1,l2,Zj8 l3 fun e x ah=>?_,fun k hk=>?_⟩
   ·simp only[XI];rw[Zbp aa,setRow_setRow];have:(Zk cur.toList (j*sz+off) us).toArray.setIfInBounds (i' * sz+c) (.slice none 0 0)=((Zk cur.toList (j*sz+off) us).set (i' * sz+c) (.slice none 0 0)).toArray:=by simp
    rw[this];exact⟨B',h1,h2⟩
   ·subst e;rw[hx] at ah;cases ah;simp only[D.cells];rw[ZY _ _ _ _ (by omega),Kp (fun hh=>hc ⟨rfl,by omega⟩)]
   ·obtain⟨g',a',n',c',h5,h6,h7⟩:=l4 k hk;rw[ha] at h5;cases h5;refine⟨g,a',n',c',ha,h6,?_⟩;rw[cell_of_row _ _ _ _ _ _ hw] at h7;rw[cell_of_row _ _ _ _ _ _ aa];have:(Zk cur.toList (j*sz+off) us).toArray[i' * sz+c]?=cur[i' * sz+c]?:=by
     rw[LX,ZY _ _ _ _ (by simp;omega),Kp hp];simp
    rw[this];exact h7
theorem ZaZ {ns:Nat}:∀ {xs:List AV} {q:List D×List Nat},Yc hp ns xs=some q→Qv xs=true
 | [],q,h=>rfl
 | x :: xs,q,h=>by
  simp only[Yc] at h;obtain⟨q1,h1,h⟩:=Za h;obtain⟨q2,h2,h⟩:=Za h;simp only[Qv,ZaZ h2,L6];cases x<;>first | rfl | cases h1
theorem Zi9 {ns:Nat}:∀ {xs:List AV} {q:List D×List Nat},Yc hp ns xs=some q→q.1.length=xs.length
 | [],q,h=>by simp only[Yc] at h;cases h;rfl
 | x :: xs,q,h=>by
  simp only[Yc] at h;obtain⟨q1,h1,h⟩:=Za h;obtain⟨q2,h2,h⟩:=Za h;split at h
  ·cases h;simp[Zi9 h2]
  ·cases h
theorem Zja {ns:Nat}:∀ {xs:List AV} {vs:List Value} {q:List D×List Nat},Yc hp ns xs=some q→Zp (QP Γ w I) xs vs→Zp (Xj Γ w I) xs vs
 | [],[],q,h,hr=>trivial
 | [],_ :: _,q,h,hr=>hr.elim
 | _ :: _,[],q,h,hr=>hr.elim
 | x :: xs,v :: vs,q,h,hr=>by
  simp only[Yc] at h;obtain⟨q1,h1,h⟩:=Za h;obtain⟨q2,h2,h⟩:=Za h;refine⟨?_,Zja h2 hr.2⟩;cases x<;>first | exact hr.1 | cases h1
end
end Go.Abs
