/- Own text. -/
import Derived.Test.YtnachaiejoflhaaAbsStepT
set_option linter.unusedVariables false
set_option linter.unusedSimpArgs false
namespace Go.Abs
open Go
section
variable {P:Program} {nt:Nat} {U:Nat→Prop} {F A I:Nat→Prop} {Γ:Gh} {sl:Sl} {hp:Hp} {a:Act} {w:World}
theorem Qz.out {U:Nat→Prop} {base k:Nat} (h:Qz U base) (hk:U k):k<base∨base+64≤k:=by
 rcases KK k base with h1 | h1
 ·exact .inl h1
 ·rcases KK k (base+64) with h2 | h2
  ·exact absurd hk (h k h1 h2)
  ·exact .inr h2
theorem Zlh {U:Nat→Prop} {base k:Nat} (h:¬VC U base k):(k<base∨base+64≤k)∧¬U k:=by
 refine⟨?_,fun hu=>h (.inl hu)⟩;rcases KK k base with h1 | h1
 ·exact .inl h1
 ·rcases KK k (base+64) with h2 | h2
  ·exact absurd (.inr ⟨h1,h2⟩) h
  ·exact .inr h2
theorem WI {g:Nat} {cur:Array Value} {S:Nat→Prop} (h:¬S g):Zx S S w (w.setRow g cur):=
 ⟨fun _ h=>h,fun b hb=>setRow_other w g b cur fun e=>h (e ▸ hb)⟩
theorem post_eq {U' : Nat→Prop} {sl' : Sl} {hp' aa : Hp} {a' : Act} {w' : World} (h:YF nt F A I Γ w U' sl' hp' a' w') (e:hp'=aa):YF nt F A I Γ w U' sl' aa a' w':=e ▸ h
theorem Zcl:∀ {xs:List AV} {ds:List D},ZkR xs=some ds→xs=ds.map AV.d∧∀ d∈ds,d.plain=true
 | [],ds,h=>by simp only[ZkR] at h;cases h;exact⟨rfl,by simp⟩
 | x :: xs,ds,h=>by
  simp only[ZkR] at h;obtain⟨d,h1,h⟩:=Za h;obtain⟨aa,h2,h⟩:=Za h;cases h;obtain⟨h3,h4⟩:=Zcl h2;unfold Zjt at h1;split at h1
  ·split at h1
   ·cases h1;rename_i hp';refine⟨by rw[h3];rfl,fun d' hd=>?_⟩;rcases Kf.1 hd with rfl | hd
    ·exact hp'
    ·exact h4 d' hd
   ·cases h1
  ·cases h1
theorem Zde:∀ ds:List D,QM (ds.map AV.d)=true
 | []=>rfl
 | d :: ds=>by simp only[Kw,QM,Zde ds,Lw];rfl
theorem Zsq {xs:List AV} {ds:List D} (h:ZkR xs=some ds):QM xs=true:=by
 rw[(Zcl h).1];exact Zde ds
theorem datL_rep {w' : World} {S:Nat→Prop} {xs:List AV} {ds:List D} {vs:List Value} (h:ZkR xs=some ds) (hr:Zm (QO Γ w I) xs vs):Z8 w' S ds vs:=by
 obtain⟨h1,h2⟩:=Zcl h;subst h1;clear h
 induction ds generalizing vs with
 | nil=>cases vs with
  | nil=>simp[Z8]
  | cons _ _=>exact hr.elim
 | cons d ds ih=>cases vs with
  | nil=>exact hr.elim
  | cons v vs=>
   refine⟨v,vs,rfl,hr.1.1,Jc (h2 d (by simp)) hr.1.2,ih (fun d' hd=>h2 d' (Kn _ hd)) hr.2⟩
theorem ZaU:∀ {xs:List AV} {q:List D×Bool×List Nat},XW hp xs=some q→QM xs=true
 | [],q,h=>rfl
 | x :: xs,q,h=>by
  simp only[XW] at h;obtain⟨q1,h1,h⟩:=Za h;obtain⟨q2,h2,h⟩:=Za h;simp only[QM,ZaU h2,Lw];cases x<;>first | rfl | cases h1
theorem ZiL:∀ {xs:List AV} {q:List D×Bool×List Nat},XW hp xs=some q→q.1.length=xs.length
 | [],q,h=>by simp only[XW] at h;cases h;rfl
 | x :: xs,q,h=>by
  simp only[XW] at h;obtain⟨q1,h1,h⟩:=Za h;obtain⟨q2,h2,h⟩:=Za h;split at h
  ·cases h;simp[ZiL h2]
  ·cases h
theorem ZiM:∀ {xs:List AV} {vs:List Value} {q:List D×Bool×List Nat},XW hp xs=some q→Zm (QO Γ w I) xs vs→Zm (Xo Γ w I) xs vs
 | [],[],q,h,hr=>trivial
 | [],_ :: _,q,h,hr=>hr.elim
 | _ :: _,[],q,h,hr=>hr.elim
 | x :: xs,v :: vs,q,h,hr=>by
  simp only[XW] at h;obtain⟨q1,h1,h⟩:=Za h;obtain⟨q2,h2,h⟩:=Za h;refine⟨?_,ZiM h2 hr.2⟩;cases x<;>first | exact hr.1 | cases h1
theorem ZpI (h:Sim nt F A I Γ U sl hp a w) {o:Oper} {t:TypeId} {x y:Operand} {x' y' : Opd} (ho:o.op=.store t x y) (hi:(P.info? t).isSome=true) (hx:ZC x=some x') (hy:ZC y=some y') {slc:List (Option Nat)}
  {base:Nat} (hb:Qz U base) (hd:Qk nt o.dst=true) {ce:Zb} (bq:Qn base (base+64) ce.eff.adds=true)
  (hv:Zak (Wq hp slc (P.cellsOf t) base (evO sl y').cells (evO sl x'))=some ce):Jg P nt F A I Γ U sl hp a w o base ce:=by
 obtain⟨i,hi⟩:=KQ.1 hi;unfold Zak at hv;obtain⟨ef,h1,hv⟩:=Za hv;cases hv;have a3:=h.slOK.ev hx;have a9:=h.slOK.ev hy;have ah:∀ (b off:Nat) (cur:Array Value) (e:TypeId),a.eval x=.pointer (some ⟨b,off,none⟩)→w.heap[b]?=some (.cells cur e (0,0))→(a.eval y).cells.size=P.cellsOf t→off+(a.eval y).cells.size≤cur.size →
   (∀ u∈(a.eval y).cells.toList,u.oneCell'=true)→Zgl P o a w undef (w.setRow b (Zk cur.toList off (a.eval y).cells.toList).toArray):=by
  intro b off cur e e1 e2 e3 e4 e5;refine .inr ⟨?_,rfl⟩;simp only[execOp,ho,e1,Instr.storeAt,Instr.sureAddr,Sem.run_bind,Sem.run_pure,Result.andThen_ok,ZjP hi e3 e2 e4 e5]
 unfold Wq at h1;split at h1
 ·
  rename_i id off ap;rw[ap] at a3;obtain⟨⟨b,e⟩,hb1,hb2⟩:=a3;unfold Zaz at h1;split at h1
  ·rename_i cs hl;obtain⟨b',cur,e',ak,hw,hI,hF,hc,_⟩:=h.objs id _ hl;rw[hb1] at ak;cases ak;split at h1
   ·rename_i ae;obtain⟨c1,c2,c3,c4⟩:=ae;have a4:=Rep.cells (ZaT c3) a9;have ag:(a.eval y).cells.size=P.cellsOf t:=by rw[← c1,a4.length];simp
    have b4:cs.length=cur.size:=by rw[hc.length];simp
    have hg:=ah b off cur e hb2 hw ag (by omega) (J0 c3 a4);have a5:Zx I I w (w.setRow b (Zk cur.toList off (a.eval y).cells.toList).toArray):=WI hI;have aa:(w.setRow b (Zk cur.toList off (a.eval y).cells.toList).toArray).heap[b]?=some (.cells (Zk cur.toList off (a.eval y).cells.toList).toArray e (0,0)):=setRow_heap w b cur _ e _ hw;split at h1
    ·cases h1;obtain⟨Γ',g1,g2,g3,g5⟩:=ZpG (w.setRow b (Zk cur.toList off (a.eval y).cells.toList).toArray) I F A (base+64) slc (evO sl y').cells (a.eval y).cells.toList base Γ bq (fun k hk a'=>h.names k (hb k hk a')) (a4.mono fun _ _ h=>h.mono (ZP.refl Γ) a5);refine⟨_,_,hg,?_⟩;rw[Qy];refine h.turn hb hl (by rw[hb1];rfl) hI hF g1 (fun k hk=>g2 k (hb.out hk)) g3 (fun k hk=>by rw[g2 k (Zlh hk).1];exact h.names k (Zlh hk).2) ?_ trivial hd (hbuf:=fun b hb=>(Zle (WH c4 (by rw[Zbq];exact We c3)) hb).elim);exact⟨b,_,e,g1 _ _ hb1,aa,hI,hF,by simpa using Zck (hc.mono fun _ _ h=>h.mono g1 a5) g5 off,JZ (WH c4 (by rw[Zbq];exact We c3))⟩
    ·cases h1;refine⟨_,_,hg,?_⟩;rw[Qy];refine h.turn hb hl (by rw[hb1];rfl) hI hF (adds:=[]) (ZP.refl Γ) (fun _ _=>rfl) (fun k o hk=>by simp at hk) (fun k hk=>h.names k (fun hu=>hk (.inl hu))) ?_ trivial hd (hbuf:=fun b hb=>(Zle (WH c4 (We c3)) hb).elim);exact⟨b,_,e,hb1,aa,hI,hF,by simpa using Zck (hc.mono fun _ _ h=>h.mono (ZP.refl Γ) a5) (a4.mono fun _ _ h=>h.mono (ZP.refl Γ) a5) off,JZ (WH c4 (We c3))⟩
   ·cases h1
  ·cases h1
 ·
  rename_i id sz j off ap;unfold WZ at h1;split at h1
  ·rename_i br xs ex hl;split at h1
   ·rename_i ba;subst ba;obtain⟨el,a6,h1⟩:=Za h1;obtain⟨q,ai,h1⟩:=Za h1;unfold Zbg at h1;split at h1
    ·rename_i ae;obtain⟨c1,c2,c3,c4,c5⟩:=ae;cases h1;have h':=h.freeze q.2.2;have a7 : lkp (ZQ q.2.2 hp) id=some (.row sz xs ex false):=by
      rw[ZL,hl];simp only[KO,c5,Ka,Kg]
     have ar:=h'.slOK.ev hx;have bs:=h'.slOK.ev hy;rw[ap] at ar;obtain⟨b,n,c,hb1,hj,hb2⟩:=ar;obtain⟨ad,n',c',ak,hn,au⟩:=h'.objs id _ a7;rw[hb1] at ak;cases ak;rcases au with au | ⟨g,cur,e,bb,av,hw,bc,bd,aw,am,ax,bn,be⟩
     ·omega
     ·cases bb;simp only[Ka,Kg] at ax;have af:=Rep.cells (ZaT (ZaU ai)) a9;have ag:(a.eval y).cells.size=P.cellsOf t:=by
       have:=ZiL ai;have h2:=af.length;simp at h2;omega
      have bt:q.1.length=(a.eval y).cells.toList.length:=by simp;omega
      have b5:n=xs.length:=hn;have bo:j*sz+sz≤cur.size:=by
       rw[aw,← Nat.succ_mul];exact Kv _ (by omega)
      have hg:=ah b (j*sz+off) cur e hb2 hw ag (by omega) (J0 (ZaU ai) af);have bf:(Zk cur.toList (j*sz+off) (a.eval y).cells.toList).length=cur.size:=by rw[XO];simp;simp;omega
      have aa:(w.setRow b (Zk cur.toList (j*sz+off) (a.eval y).cells.toList).toArray).heap[b]?=some (.cells (Zk cur.toList (j*sz+off) (a.eval y).cells.toList).toArray e (0,0)):=setRow_heap w b cur _ e _ hw;refine⟨_,_,hg,YF.of_freeze h q.2.2 ?_⟩;rw[Qy];have ay:∀ e' : Bool,¬(if e' then fun b=>QH Γ w hp I q.2.2 b∧A b else QH Γ w hp I q.2.2) b:=fun e'=>by cases e' <;> simp<;>(try exact ax);exact fun hI=>absurd hI ax
      have bg:∀ e' : Bool,(e'=true→(ex&&q.2.1)=true∨True)→∀ x,(if ex then fun b=>QH Γ w hp I q.2.2 b∧A b else QH Γ w hp I q.2.2) x→(if (ex&&q.2.1) then fun b=>QH Γ w hp I q.2.2 b∧A b else QH Γ w hp I q.2.2) x:=fun _ _ x hx=>by
       cases ex<;>cases a8:q.2.1<;>simp[a8] at hx ⊢
       ·exact hx
       ·exact hx
       ·exact hx.1
       ·exact hx
      have az:∀ x,(if q.2.1 then fun b=>QH Γ w hp I q.2.2 b∧A b else QH Γ w hp I q.2.2) x→(if (ex&&q.2.1) then fun b=>QH Γ w hp I q.2.2 b∧A b else QH Γ w hp I q.2.2) x:=fun x hx=>by
       cases ex<;>cases a8:q.2.1<;>simp[a8] at hx ⊢
       ·exact hx
       ·exact hx.1
       ·exact hx
       ·exact hx
      have aj:Zx (if ex then fun b=>QH Γ w hp I q.2.2 b∧A b else QH Γ w hp I q.2.2) (if (ex&&q.2.1) then fun b=>QH Γ w hp I q.2.2 b∧A b else QH Γ w hp I q.2.2) w (w.setRow b (Zk cur.toList (j*sz+off) (a.eval y).cells.toList).toArray):=
       ⟨bg true (fun _=>.inr trivial),fun x hx=>setRow_other w b x _ fun e'=>ay ex (e' ▸ hx)⟩
      have a0:Zx (if q.2.1 then fun b=>QH Γ w hp I q.2.2 b∧A b else QH Γ w hp I q.2.2) (if (ex&&q.2.1) then fun b=>QH Γ w hp I q.2.2 b∧A b else QH Γ w hp I q.2.2) w (w.setRow b (Zk cur.toList (j*sz+off) (a.eval y).cells.toList).toArray):=
       ⟨az,fun x hx=>setRow_other w b x _ fun e'=>ay q.2.1 (e' ▸ hx)⟩
      have an:Z8 w (if q.2.1 then fun b=>QH Γ w hp I q.2.2 b∧A b else QH Γ w hp I q.2.2) q.1 (a.eval y).cells.toList:=
       (ZgG h.hpOK h.own (ZiM ai af) ai).froze fun S S' hs hq=>hq.mono ⟨hs,fun _ _=>rfl⟩
      refine h'.turn hb a7 (by rw[hb1];simp[Zo,Kq av]) ax bn (adds:=[]) (ZP.refl Γ) (fun _ _=>rfl) (fun k o hk=>by simp at hk) (fun k hk=>h.names k (fun hu=>hk (.inl hu))) ?_ trivial hd;refine⟨_,n,c,hb1,by simp[hn],.inr ⟨b,_,e,rfl,av,aa,bc,bd,by simp[bf,aw],am,by simpa using ax,bn,?_⟩⟩;rw[QV] at be ⊢;have al:∀ p,(w.setRow b (Zk cur.toList (j*sz+off) (a.eval y).cells.toList).toArray).cell? ⟨b,p,none⟩=(Zk cur.toList (j*sz+off) (a.eval y).cells.toList)[p]?:=fun p=>by
       rw[cell_of_row _ _ _ _ _ _ aa];simp
      have ab:∀ p,w.cell? ⟨b,p,none⟩=cur.toList[p]?:=fun p=>by rw[cell_of_row _ _ _ _ _ _ hw];simp
      intro k z hz;by_cases bh:k=j
      ·subst bh;have bu : k<xs.length:=(Kd.1 a6).1;rw[KX bu] at hz;cases hz;obtain⟨vs,v1,v2,v3⟩:=be k el a6;refine⟨Zk vs off (a.eval y).cells.toList,by rw[XO];exact v1;omega,?_,?_⟩
       ·intro p u hu;rw[ZX _ _ _ _ (by omega)] at hu;rw[al,ZX _ _ _ _ (by simp;omega)];split at hu
        ·rename_i bv;rw[Ko (by omega)];have:0+k*sz+p-(k*sz+off)=p-off:=by omega
         rw[this];exact hu
        ·rename_i bv;rw[Kk (by omega),← ab];exact v2 p u hu
       ·have aq:=an.mono a0;generalize a8:q.1=ds at aq c3 bt;cases el with
        | agg cs=>
         simp only[Xp,Zv] at v3 ⊢;exact Qi.2 (Zck (Qi.1 (v3.mono aj)) (Qi.1 aq) off)
        | sl zs=>cases c1
        | _=>
         simp only[D.cells,List.length_singleton] at c2;have bw:vs.length=1:=by omega
         obtain⟨v0,rfl⟩:=List.length_eq_one_iff.1 bw;have bx:=v3.mono aj;cases ds with
         | nil=>
          simp only[Z8] at aq;simp only[Xp,List.headD_nil];rw[aq];simp only[Zk,KY,List.length_nil,LA,Lb];exact bx
         | cons d ds=>
          simp only[KC] at c3;have bi:ds=[]:=Kj (by omega);subst bi;have bj:off=0:=by omega
          subst bj;simp only[Z8] at aq;obtain⟨v,r,e1,e2,e3,rfl⟩:=aq;simp only[Xp,List.headD_cons];have bz:Zk [v0] 0 (a.eval y).cells.toList=(a.eval y).cells.toList:=by rw[e1];simp[Zk]
          rw[bz];have bk:∀ l,l=[v]→Zv (w.setRow b (Zk cur.toList (k*sz+0) (a.eval y).cells.toList).toArray) (if (ex&&q.2.1) then fun b=>QH Γ w hp I q.2.2 b∧A b else QH Γ w hp I q.2.2) d l:=fun l hl=>hl ▸ e3;exact bk _ e1
      ·rw[KU (Ne.symm bh)] at hz;obtain⟨vs,v1,v2,v3⟩:=be k z hz;refine⟨vs,v1,?_,v3.mono aj⟩;intro p u hu;have b6:p<sz:=by have:=(Kd.1 hu).1;omega
       rw[al,ZX _ _ _ _ (by simp;omega),Kk,← ab]
       ·exact v2 p u hu
       ·intro hh;simp at hh;rcases Lq bh with a' | a'
        ·have:(k+1)*sz≤j*sz:=Kv _ (by omega);rw[KA] at this;omega
        ·have:(j+1)*sz≤k*sz:=Kv _ (by omega);rw[KA] at this;omega
    ·cases h1
   ·cases h1
  ·rename_i br ns xs lk hl;split at h1
   ·rename_i ba;subst ba;obtain⟨el,a6,h1⟩:=Za h1;obtain⟨q,ai,h1⟩:=Za h1;unfold Zbi at h1;split at h1
    ·rename_i ae;obtain⟨c1,c2,c3,c4,c5⟩:=ae;cases h1;rw[ap] at a3;obtain⟨b,n,c,hb1,hj,hb2⟩:=a3;obtain⟨ad,n',c',ak,⟨hn,au⟩,b0⟩:=h.objs id _ hl;rw[hb1] at ak;cases ak;rcases au with au | ⟨g,cur,e,B,bb,av,hw,bc,bd,aw,am,hE,bl,bm⟩
     ·omega
     ·cases bb;cases el with
      | int _ _=>cases c1
      | bool _=>cases c1
      | str _=>cases c1
      | sl _=>cases c1
      | agg cs=>
       have af:=Rep.cells (ZaT (ZaW ai)) a9;have ag:(a.eval y).cells.size=P.cellsOf t:=by
        have:=ZiQ ai;have h2:=af.length;simp at h2;omega
       have b1:(a.eval y).cells.toList.length=P.cellsOf t:=by simpa using ag
       have bo:j*sz+sz≤cur.size:=by
        rw[aw,← Nat.succ_mul];exact Kv _ (by omega)
       have hg:=ah b (j*sz+off) cur e hb2 hw ag (by omega) (J0 (ZaW ai) af);have ao:Zo (Γ id)=some b:=by rw[hb1];simp[Zo,Kq av]
       obtain⟨Bq,q1,q2,q3,q4⟩:=ZgL h (ZiR ai af) ai;have a1:∀ x∈b :: B,x∉Bq:=fun x hx b2=>by
        obtain⟨k,hk,o',a7,ak⟩:=q4 x b2;have hB:Blk Γ w id (.tree sz ns xs lk) x:=(Kf.1 hx).elim (fun e=>.inl (e ▸ ao)) fun hx=>.inr (.inl ⟨b,B,ao,hE,hx⟩);have:=h.inj id k _ o' x hl a7 hB ak;subst this;simp at c5;exact c5 hk
       have ab:=(K5.1 bl).1;obtain⟨⟨B',t1,t2⟩,t3⟩:=ZmI rfl hw hE b0 a6 (by simpa [D.cells] using c2) (by omega:off+(a.eval y).cells.toList.length≤sz) q1 ab (a1 b (by simp)) bo;rw[b1] at t1 t3;have a2:∀ x∈b :: B',x∈b :: B∨x∈Bq:=fun x hx=>by
        rcases Kf.1 hx with rfl | hx
        ·exact .inl (by simp)
        ·have h1:=KJ.2 hx;have h2:=t2 x;rcases Lg (List.count x Bq) with h3 | h3
         ·exact .inl (Kn _ (KJ.1 (by omega)))
         ·exact .inr (KJ.1 h3)
       have bf:(Zk cur.toList (j*sz+off) (a.eval y).cells.toList).length=cur.size:=by rw[XO];simp;simp;omega
       have aa:(w.setRow b (Zk cur.toList (j*sz+off) (a.eval y).cells.toList).toArray).heap[b]?=some (.cells (Zk cur.toList (j*sz+off) (a.eval y).cells.toList).toArray e (0,0)):=setRow_heap w b cur _ e _ hw;refine⟨_,_,hg,?_⟩;rw[Qy];refine h.turnT (dels:=q.2) (by simpa using c5) hl ao (bm b (by simp)).1 (bm b (by simp)).2 (v:=.junk) ?_ trivial hd fun x hx=>?_
       ·refine⟨_,n,c,hb1,⟨by simp[hn],.inr ⟨b,_,e,B',rfl,av,aa,bc,bd,by simp[bf,aw],am,t1,?_,fun x hx=>?_⟩⟩,t3⟩
        ·rw[Lu] at bl q2 ⊢;intro x;have h1:=bl x;have h2:=q2 x;have h3:=t2 x;simp only[List.count_cons] at h1 ⊢;rcases Lg (List.count x Bq) with h4 | h4
         ·omega
         ·have h5:x∉b :: B:=fun hm=>a1 x hm (KJ.1 h4);have h6:=List.count_eq_zero.2 h5;simp only[List.count_cons] at h6;omega
        ·rcases a2 x hx with hm | hm
         ·exact bm x hm
         ·exact q3 x hm
       ·have ap : x∈b :: B∨x∈Bq:=by
         rcases hx with hx | ⟨g',B2,bp,b3,hx⟩ | hx
         ·rw[WP,ao] at hx;cases hx;exact .inl (by simp)
         ·rw[ao] at bp;cases bp;cases ZE.uniq t1 b3;exact a2 x (Kn _ hx)
         ·exact hx.elim
        rcases ap with hx | hx
        ·exact⟨id,by simp,_,hl,(Kf.1 hx).elim (fun e=>.inl (e ▸ ao)) fun hx=>.inr (.inl ⟨b,B,ao,hE,hx⟩)⟩
        ·obtain⟨k,hk,o',hh⟩:=q4 x hx;exact⟨k,by simp[hk],o',hh⟩
    ·cases h1
   ·cases h1
  ·cases h1
 ·cases h1
end
end Go.Abs
