/- Own text. -/
import Derived.Test.YtefabmohhbhlfaaAbsStepT
set_option linter.unusedVariables false
set_option linter.unusedSimpArgs false
namespace Go.Abs
open Go
section
variable {P:Program} {nt:Nat} {U:Nat→Prop} {F A I:Nat→Prop} {Γ:Gh} {sl:Sl} {hp:Hp} {a:Act} {w:World}
theorem Qw.out {U:Nat→Prop} {base k:Nat} (h:Qw U base) (hk:U k):k<base∨base+64≤k:=by
 rcases KO k base with h1 | h1
 ·exact .inl h1
 ·rcases KO k (base+64) with h2 | h2
  ·exact absurd hk (h k h1 h2)
  ·exact .inr h2
theorem Zlm {U:Nat→Prop} {base k:Nat} (h:¬VI U base k):(k<base∨base+64≤k)∧¬U k:=by
 refine⟨?_,fun hu=>h (.inl hu)⟩;rcases KO k base with h1 | h1
 ·exact .inl h1
 ·rcases KO k (base+64) with h2 | h2
  ·exact absurd (.inr ⟨h1,h2⟩) h
  ·exact .inr h2
theorem VQ {g:Nat} {cur:Array Value} {S:Nat→Prop} (h:¬S g):ZB S S w (w.setRow g cur):=
 ⟨fun _ h=>h,fun b hb=>setRow_other w g b cur fun e=>h (e ▸ hb)⟩
theorem post_eq {U' : Nat→Prop} {sl' : Sl} {hp' aa : Hp} {a' : Act} {w' : World} (h:XQ nt F A I Γ w U' sl' hp' a' w') (e:hp'=aa):XQ nt F A I Γ w U' sl' aa a' w':=e ▸ h
theorem Zcm:∀ {xs:List AV} {ds:List D},ZkS xs=some ds→xs=ds.map AV.d∧∀ d∈ds,d.plain=true
 | [],ds,h=>by simp only[ZkS] at h;cases h;exact⟨rfl,by simp⟩
 | x :: xs,ds,h=>by
  simp only[ZkS] at h;obtain⟨d,h1,h⟩:=Za h;obtain⟨aa,h2,h⟩:=Za h;cases h;obtain⟨h3,h4⟩:=Zcm h2;unfold ZjJ at h1;split at h1
  ·split at h1
   ·cases h1;rename_i hp';refine⟨by rw[h3];rfl,fun d' hd=>?_⟩;rcases Ke.1 hd with rfl | hd
    ·exact hp'
    ·exact h4 d' hd
   ·cases h1
  ·cases h1
theorem Zdg:∀ ds:List D,Qv (ds.map AV.d)=true
 | []=>rfl
 | d :: ds=>by simp only[Ko,Qv,Zdg ds,L6];rfl
theorem Zr5 {xs:List AV} {ds:List D} (h:ZkS xs=some ds):Qv xs=true:=by
 rw[(Zcm h).1];exact Zdg ds
theorem datL_rep {w' : World} {S:Nat→Prop} {xs:List AV} {ds:List D} {vs:List Value} (h:ZkS xs=some ds) (hr:Zp (QP Γ w I) xs vs):Qt w' S ds vs:=by
 obtain⟨h1,h2⟩:=Zcm h;subst h1;clear h
 induction ds generalizing vs with
 | nil=>cases vs with
  | nil=>simp[Qt]
  | cons _ _=>exact hr.elim
 | cons d ds ih=>cases vs with
  | nil=>exact hr.elim
  | cons v vs=>
   refine⟨v,vs,rfl,hr.1.1,Js (h2 d (by simp)) hr.1.2,ih (fun d' hd=>h2 d' (Ks _ hd)) hr.2⟩
theorem ZaX:∀ {xs:List AV} {q:List D×Bool×List Nat},X7 hp xs=some q→Qv xs=true
 | [],q,h=>rfl
 | x :: xs,q,h=>by
  simp only[X7] at h;obtain⟨q1,h1,h⟩:=Za h;obtain⟨q2,h2,h⟩:=Za h;simp only[Qv,ZaX h2,L6];cases x<;>first | rfl | cases h1
theorem Zi4:∀ {xs:List AV} {q:List D×Bool×List Nat},X7 hp xs=some q→q.1.length=xs.length
 | [],q,h=>by simp only[X7] at h;cases h;rfl
 | x :: xs,q,h=>by
  simp only[X7] at h;obtain⟨q1,h1,h⟩:=Za h;obtain⟨q2,h2,h⟩:=Za h;split at h
  ·cases h;simp[Zi4 h2]
  ·cases h
theorem Zi5:∀ {xs:List AV} {vs:List Value} {q:List D×Bool×List Nat},X7 hp xs=some q→Zp (QP Γ w I) xs vs→Zp (Xj Γ w I) xs vs
 | [],[],q,h,hr=>trivial
 | [],_ :: _,q,h,hr=>hr.elim
 | _ :: _,[],q,h,hr=>hr.elim
 | x :: xs,v :: vs,q,h,hr=>by
  simp only[X7] at h;obtain⟨q1,h1,h⟩:=Za h;obtain⟨q2,h2,h⟩:=Za h;refine⟨?_,Zi5 h2 hr.2⟩;cases x<;>first | exact hr.1 | cases h1
theorem Zpp (h:Sim nt F A I Γ U sl hp a w) {o:Oper} {t:TypeId} {x y:Operand} {x' y' : Opd} (ho:o.op=.store t x y) (hi:(P.info? t).isSome=true) (hx:ZI x=some x') (hy:ZI y=some y') {slc:List (Option Nat)}
  {base:Nat} (hb:Qw U base) (hd:Qh nt o.dst=true) {ce:Zb} (bs:Qn base (base+64) ce.eff.adds=true)
  (hv:Zam (WH hp slc (P.cellsOf t) base (evO sl y').cells (evO sl x'))=some ce):U6 P nt F A I Γ U sl hp a w o base ce:=by
 obtain⟨i,hi⟩:=KY.1 hi;unfold Zam at hv;obtain⟨ef,h1,hv⟩:=Za hv;cases hv;have a5:=h.slOK.ev hx;have ba:=h.slOK.ev hy;have ai:∀ (b off:Nat) (cur:Array Value) (e:TypeId),a.eval x=.pointer (some ⟨b,off,none⟩)→w.heap[b]?=some (.cells cur e (0,0))→(a.eval y).cells.size=P.cellsOf t→off+(a.eval y).cells.size≤cur.size →
   (∀ u∈(a.eval y).cells.toList,u.oneCell'=true)→Zgr P o a w undef (w.setRow b (Zk cur.toList off (a.eval y).cells.toList).toArray):=by
  intro b off cur e e1 e2 e3 e4 e5;refine .inr ⟨?_,rfl⟩;simp only[execOp,ho,e1,Instr.storeAt,Instr.sureAddr,Sem.run_bind,Sem.run_pure,Result.andThen_ok,Zj5 hi e3 e2 e4 e5]
 unfold WH at h1;split at h1
 ·
  rename_i id off ar;rw[ar] at a5;obtain⟨⟨b,e⟩,ag,au⟩:=a5;unfold ZaB at h1;split at h1
  ·rename_i cs hl;obtain⟨b',cur,e',al,hw,hI,hF,hc,_⟩:=h.objs id _ hl;rw[ag] at al;cases al;split at h1
   ·rename_i ae;obtain⟨c1,c2,c3,c4⟩:=ae;have a6:=Rep.cells (ZaW c3) ba;have ah:(a.eval y).cells.size=P.cellsOf t:=by rw[← c1,a6.length];simp
    have b7:cs.length=cur.size:=by rw[hc.length];simp
    have hg:=ai b off cur e au hw ah (by omega) (Zad c3 a6);have a7:ZB I I w (w.setRow b (Zk cur.toList off (a.eval y).cells.toList).toArray):=VQ hI;have aa:(w.setRow b (Zk cur.toList off (a.eval y).cells.toList).toArray).heap[b]?=some (.cells (Zk cur.toList off (a.eval y).cells.toList).toArray e (0,0)):=setRow_heap w b cur _ e _ hw;split at h1
    ·cases h1;obtain⟨Γ',g1,g2,g3,g5⟩:=Zpn (w.setRow b (Zk cur.toList off (a.eval y).cells.toList).toArray) I F A (base+64) slc (evO sl y').cells (a.eval y).cells.toList base Γ bs (fun k hk bb=>h.names k (hb k hk bb)) (a6.mono fun _ _ h=>h.mono (ZU.refl Γ) a7);refine⟨_,_,hg,?_⟩;rw[Qz];refine h.turn hb hl (by rw[ag];rfl) hI hF g1 (fun k hk=>g2 k (hb.out hk)) g3 (fun k hk=>by rw[g2 k (Zlm hk).1];exact h.names k (Zlm hk).2) ?_ trivial hd (hbuf:=fun b hb=>(Zlj (W0 c4 (by rw[Zbt];exact WC c3)) hb).elim);exact⟨b,_,e,g1 _ _ ag,aa,hI,hF,by simpa using Zcl (hc.mono fun _ _ h=>h.mono g1 a7) g5 off,Zac (W0 c4 (by rw[Zbt];exact WC c3))⟩
    ·cases h1;refine⟨_,_,hg,?_⟩;rw[Qz];refine h.turn hb hl (by rw[ag];rfl) hI hF (adds:=[]) (ZU.refl Γ) (fun _ _=>rfl) (fun k o hk=>by simp at hk) (fun k hk=>h.names k (fun hu=>hk (.inl hu))) ?_ trivial hd (hbuf:=fun b hb=>(Zlj (W0 c4 (WC c3)) hb).elim);exact⟨b,_,e,ag,aa,hI,hF,by simpa using Zcl (hc.mono fun _ _ h=>h.mono (ZU.refl Γ) a7) (a6.mono fun _ _ h=>h.mono (ZU.refl Γ) a7) off,Zac (W0 c4 (WC c3))⟩
   ·cases h1
  ·cases h1
 ·
  rename_i id sz j off ar;unfold Ub at h1;split at h1
  ·rename_i bt xs ex hl;split at h1
   ·rename_i bc;subst bc;obtain⟨el,a8,h1⟩:=Za h1;obtain⟨q,aj,h1⟩:=Za h1;unfold Zbk at h1;split at h1
    ·rename_i ae;obtain⟨c1,c2,c3,c4,c5⟩:=ae;cases h1;have h':=h.freeze q.2.2;have a9 : lkp (ZW q.2.2 hp) id=some (.row sz xs ex false):=by
      rw[ZQ,hl];simp only[KK,c5,Ka,Kj]
     have aw:=h'.slOK.ev hx;have bu:=h'.slOK.ev hy;rw[ar] at aw;obtain⟨b,o0,n,c,ag,hj,au⟩:=aw;obtain⟨ad,n',c',al,hn,ax⟩:=h'.objs id _ a9;rw[ag] at al;cases al;rcases ax with ax | ⟨g,Q0,cur,e,bd,ay,hw,be,bf,an,ao,az,bp,bg⟩
     ·omega
     ·cases bd;obtain⟨an,bv⟩:=an;simp only[Ka,Kj] at az;have af:=Rep.cells (ZaW (ZaX aj)) ba;have ah:(a.eval y).cells.size=P.cellsOf t:=by
       have:=Zi4 aj;have h2:=af.length;simp at h2;omega
      have bw:q.1.length=(a.eval y).cells.toList.length:=by simp;omega
      have b8:n=xs.length:=hn;have bq:o0+(j*sz+sz)≤cur.size:=by
       rw[an,← Nat.succ_mul];exact LP (Ky _ (by omega)) _
      have hg:=ai b (o0+(j*sz+off)) cur e au hw ah (by omega) (Zad (ZaX aj) af);have bh:(Zk cur.toList (o0+(j*sz+off)) (a.eval y).cells.toList).length=cur.size:=by rw[XV];simp;simp;omega
      have aa:(w.setRow b (Zk cur.toList (o0+(j*sz+off)) (a.eval y).cells.toList).toArray).heap[b]?=some (.cells (Zk cur.toList (o0+(j*sz+off)) (a.eval y).cells.toList).toArray e (0,0)):=setRow_heap w b cur _ e _ hw;refine⟨_,_,hg,XQ.of_freeze h q.2.2 ?_⟩;rw[Qz];have a0:∀ e' : Bool,¬(if e' then fun b=>QI Γ w hp I q.2.2 b∧A b else QI Γ w hp I q.2.2) b:=fun e'=>by cases e' <;> simp<;>(try exact az);exact fun hI=>absurd hI az
      have bi:∀ e' : Bool,(e'=true→(ex&&q.2.1)=true∨True)→∀ x,(if ex then fun b=>QI Γ w hp I q.2.2 b∧A b else QI Γ w hp I q.2.2) x→(if (ex&&q.2.1) then fun b=>QI Γ w hp I q.2.2 b∧A b else QI Γ w hp I q.2.2) x:=fun _ _ x hx=>by
       cases ex<;>cases a':q.2.1<;>simp[a'] at hx ⊢
       ·exact hx
       ·exact hx
       ·exact hx.1
       ·exact hx
      have a1:∀ x,(if q.2.1 then fun b=>QI Γ w hp I q.2.2 b∧A b else QI Γ w hp I q.2.2) x→(if (ex&&q.2.1) then fun b=>QI Γ w hp I q.2.2 b∧A b else QI Γ w hp I q.2.2) x:=fun x hx=>by
       cases ex<;>cases a':q.2.1<;>simp[a'] at hx ⊢
       ·exact hx
       ·exact hx.1
       ·exact hx
       ·exact hx
      have ak:ZB (if ex then fun b=>QI Γ w hp I q.2.2 b∧A b else QI Γ w hp I q.2.2) (if (ex&&q.2.1) then fun b=>QI Γ w hp I q.2.2 b∧A b else QI Γ w hp I q.2.2) w (w.setRow b (Zk cur.toList (o0+(j*sz+off)) (a.eval y).cells.toList).toArray):=
       ⟨bi true (fun _=>.inr trivial),fun x hx=>setRow_other w b x _ fun e'=>a0 ex (e' ▸ hx)⟩
      have a2:ZB (if q.2.1 then fun b=>QI Γ w hp I q.2.2 b∧A b else QI Γ w hp I q.2.2) (if (ex&&q.2.1) then fun b=>QI Γ w hp I q.2.2 b∧A b else QI Γ w hp I q.2.2) w (w.setRow b (Zk cur.toList (o0+(j*sz+off)) (a.eval y).cells.toList).toArray):=
       ⟨a1,fun x hx=>setRow_other w b x _ fun e'=>a0 q.2.1 (e' ▸ hx)⟩
      have ap:Qt w (if q.2.1 then fun b=>QI Γ w hp I q.2.2 b∧A b else QI Γ w hp I q.2.2) q.1 (a.eval y).cells.toList:=
       (ZgS h.hpOK h.own (Zi5 aj af) aj).froze fun S S' hs hq=>hq.mono ⟨hs,fun _ _=>rfl⟩
      refine h'.turn hb a9 (by rw[ag];simp[Zo,Ku ay]) az bp (adds:=[]) (ZU.refl Γ) (fun _ _=>rfl) (fun k o hk=>by simp at hk) (fun k hk=>h.names k (fun hu=>hk (.inl hu))) ?_ trivial hd;refine⟨_,n,c,ag,by simp[hn],.inr ⟨b,_,_,e,rfl,ay,aa,be,bf,⟨by simp[bh,an],fun he=>bv (by simp at he;exact he.1)⟩,ao,by simpa using az,bp,?_⟩⟩;rw[Q8] at bg ⊢;have am:∀ p,(w.setRow b (Zk cur.toList (o0+(j*sz+off)) (a.eval y).cells.toList).toArray).cell? ⟨b,p,none⟩=(Zk cur.toList (o0+(j*sz+off)) (a.eval y).cells.toList)[p]?:=fun p=>by
       rw[cell_of_row _ _ _ _ _ _ aa];simp
      have ab:∀ p,w.cell? ⟨b,p,none⟩=cur.toList[p]?:=fun p=>by rw[cell_of_row _ _ _ _ _ _ hw];simp
      intro k z hz;by_cases bj:k=j
      ·subst bj;have bx : k<xs.length:=(Kd.1 a8).1;rw[Lw bx] at hz;cases hz;obtain⟨vs,v1,v2,v3⟩:=bg k el a8;refine⟨Zk vs off (a.eval y).cells.toList,by rw[XV];exact v1;omega,?_,?_⟩
       ·intro p u hu;rw[ZY _ _ _ _ (by omega)] at hu;rw[am,ZY _ _ _ _ (by simp;omega)];split at hu
        ·rename_i bz;rw[Kt (by omega)];have:o0+k*sz+p-(o0+(k*sz+off))=p-off:=by omega
         rw[this];exact hu
        ·rename_i bz;rw[Kp (by omega),← ab];exact v2 p u hu
       ·have av:=ap.mono a2;generalize a':q.1=ds at av c3 bw;cases el with
        | agg cs=>
         simp only[X8,ZG] at v3 ⊢;exact QE.2 (Zcl (QE.1 (v3.mono ak)) (QE.1 av) off)
        | sl zs=>cases c1
        | _=>
         simp only[D.cells,List.length_singleton] at c2;have b0:vs.length=1:=by omega
         obtain⟨v0,rfl⟩:=List.length_eq_one_iff.1 b0;have b1:=v3.mono ak;cases ds with
         | nil=>
          simp only[Qt] at av;simp only[X8,List.headD_nil];rw[av];simp only[Zk,LG,KM,Lx,Ln];exact b1
         | cons d ds=>
          simp only[Kk] at c3;have bk:ds=[]:=Kh (by omega);subst bk;have bl:off=0:=by omega
          subst bl;simp only[Qt] at av;obtain⟨v,r,e1,e2,e3,rfl⟩:=av;simp only[X8,Lg];have b2:Zk [v0] 0 (a.eval y).cells.toList=(a.eval y).cells.toList:=by rw[e1];simp[Zk]
          rw[b2];have bm:∀ l,l=[v]→ZG (w.setRow b (Zk cur.toList (o0+(k*sz+0)) (a.eval y).cells.toList).toArray) (if (ex&&q.2.1) then fun b=>QI Γ w hp I q.2.2 b∧A b else QI Γ w hp I q.2.2) d l:=fun l hl=>hl ▸ e3;exact bm _ e1
      ·rw[K0 (Ne.symm bj)] at hz;obtain⟨vs,v1,v2,v3⟩:=bg k z hz;refine⟨vs,v1,?_,v3.mono ak⟩;intro p u hu;have b9:p<sz:=by have:=(Kd.1 hu).1;omega
       rw[am,ZY _ _ _ _ (by simp;omega),Kp,← ab]
       ·exact v2 p u hu
       ·intro hh;simp at hh;rcases LB bj with bb | bb
        ·have:(k+1)*sz≤j*sz:=Ky _ (by omega);rw[KA] at this;omega
        ·have:(j+1)*sz≤k*sz:=Ky _ (by omega);rw[KA] at this;omega
    ·cases h1
   ·cases h1
  ·rename_i bt ns xs lk hl;split at h1
   ·rename_i bc;subst bc;obtain⟨el,a8,h1⟩:=Za h1;obtain⟨q,aj,h1⟩:=Za h1;unfold Zbm at h1;split at h1
    ·rename_i ae;obtain⟨c1,c2,c3,c4,c5⟩:=ae;cases h1;rw[ar] at a5;obtain⟨b,o0,n,c,ag,hj,au⟩:=a5;obtain⟨ad,n',c',al,⟨hn,ax⟩,b3⟩:=h.objs id _ hl;rw[ag] at al;cases al;rcases ax with ax | ⟨g,cur,e,B,bd,ay,hw,be,bf,an,ao,hE,bn,bo⟩
     ·omega
     ·cases bd;rw[KP] at au;cases el with
      | int _ _=>cases c1
      | bool _=>cases c1
      | str _=>cases c1
      | sl _=>cases c1
      | agg cs=>
       have af:=Rep.cells (ZaW (ZaZ aj)) ba;have ah:(a.eval y).cells.size=P.cellsOf t:=by
        have:=Zi9 aj;have h2:=af.length;simp at h2;omega
       have b4:(a.eval y).cells.toList.length=P.cellsOf t:=by simpa using ah
       have bq:j*sz+sz≤cur.size:=by
        rw[an,← Nat.succ_mul];exact Ky _ (by omega)
       have hg:=ai b (j*sz+off) cur e au hw ah (by omega) (Zad (ZaZ aj) af);have aq:Zo (Γ id)=some b:=by rw[ag];simp[Zo,Ku ay]
       obtain⟨Bq,q1,q2,q3,q4⟩:=Zdk h (Zja aj af) aj;have a3:∀ x∈b :: B,x∉Bq:=fun x hx b5=>by
        obtain⟨k,hk,o',a9,al⟩:=q4 x b5;have hB:Blk Γ w id (.tree sz ns xs lk) x:=(Ke.1 hx).elim (fun e=>.inl (e ▸ aq)) fun hx=>.inr (.inl ⟨b,B,aq,hE,hx⟩);have:=h.inj id k _ o' x hl a9 hB al;subst this;simp at c5;exact c5 hk
       have ab:=(K9.1 bn).1;obtain⟨⟨B',t1,t2⟩,t3⟩:=Zmu rfl hw hE b3 a8 (by simpa [D.cells] using c2) (by omega:off+(a.eval y).cells.toList.length≤sz) q1 ab (a3 b (by simp)) bq;rw[b4] at t1 t3;have a4:∀ x∈b :: B',x∈b :: B∨x∈Bq:=fun x hx=>by
        rcases Ke.1 hx with rfl | hx
        ·exact .inl (by simp)
        ·have h1:=KL.2 hx;have h2:=t2 x;rcases Lh (List.count x Bq) with h3 | h3
         ·exact .inl (Ks _ (KL.1 (by omega)))
         ·exact .inr (KL.1 h3)
       have bh:(Zk cur.toList (j*sz+off) (a.eval y).cells.toList).length=cur.size:=by rw[XV];simp;simp;omega
       have aa:(w.setRow b (Zk cur.toList (j*sz+off) (a.eval y).cells.toList).toArray).heap[b]?=some (.cells (Zk cur.toList (j*sz+off) (a.eval y).cells.toList).toArray e (0,0)):=setRow_heap w b cur _ e _ hw;refine⟨_,_,hg,?_⟩;rw[Qz];refine h.turnT (dels:=q.2) (by simpa using c5) hl aq (bo b (by simp)).1 (bo b (by simp)).2 (v:=.junk) ?_ trivial hd fun x hx=>?_
       ·refine⟨_,n,c,ag,⟨by simp[hn],.inr ⟨b,_,e,B',rfl,ay,aa,be,bf,by simp[bh,an],ao,t1,?_,fun x hx=>?_⟩⟩,t3⟩
        ·rw[LM] at bn q2 ⊢;intro x;have h1:=bn x;have h2:=q2 x;have h3:=t2 x;simp only[List.count_cons] at h1 ⊢;rcases Lh (List.count x Bq) with h4 | h4
         ·omega
         ·have h5:x∉b :: B:=fun hm=>a3 x hm (KL.1 h4);have h6:=List.count_eq_zero.2 h5;simp only[List.count_cons] at h6;omega
        ·rcases a4 x hx with hm | hm
         ·exact bo x hm
         ·exact q3 x hm
       ·have ar : x∈b :: B∨x∈Bq:=by
         rcases hx with hx | ⟨g',B2,br,b6,hx⟩ | hx
         ·rw[We,aq] at hx;cases hx;exact .inl (by simp)
         ·rw[aq] at br;cases br;cases ZJ.uniq t1 b6;exact a4 x (Ks _ hx)
         ·exact hx.elim
        rcases ar with hx | hx
        ·exact⟨id,by simp,_,hl,(Ke.1 hx).elim (fun e=>.inl (e ▸ aq)) fun hx=>.inr (.inl ⟨b,B,aq,hE,hx⟩)⟩
        ·obtain⟨k,hk,o',hh⟩:=q4 x hx;exact⟨k,by simp[hk],o',hh⟩
    ·cases h1
   ·cases h1
  ·cases h1
 ·cases h1
end
end Go.Abs
