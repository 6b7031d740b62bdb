/- The abstract semantics and the model: stores into variables and rows. Own text. -/
import Derived.Test.YtkdjbefmiiibpaaGreatDoorAbsStep5
set_option linter.unusedVariables false
set_option linter.unusedSimpArgs false
namespace Go.Abs
open Go
section
variable {P:Program} {nt:Nat} {U:Nat→Prop} {F A I:Nat→Prop} {Γ:Gh} {sl:Sl} {hp:Hp} {a:Act} {w:World}
theorem Yd.out {U:Nat→Prop} {base k:Nat} (h:Yd U base) (hk:U k):k<base∨base+64≤k:=by
 rcases Nat.lt_or_ge k base with h1 | h1
 ·exact .inl h1
 ·rcases Nat.lt_or_ge k (base+64) with h2 | h2
  ·exact absurd hk (h k h1 h2)
  ·exact .inr h2
theorem Zu9 {U:Nat→Prop} {base k:Nat} (h:¬Za3 U base k):(k<base∨base+64≤k)∧¬U k:=by
 refine⟨?_,fun hu=>h (.inl hu)⟩
 rcases Nat.lt_or_ge k base with h1 | h1
 ·exact .inl h1
 ·rcases Nat.lt_or_ge k (base+64) with h2 | h2
  ·exact absurd (.inr ⟨h1,h2⟩) h
  ·exact .inr h2
theorem ZdF {g:Nat} {cur:Array Value} {S:Nat→Prop} (h:¬S g):Z3 S S w (w.setRow g cur):=
 ⟨fun _ h=>h,fun b hb=>setRow_other w g b cur fun e=>h (e ▸ hb)⟩
theorem post_eq {U' : Nat→Prop} {sl' : Sl} {hp' hp'' : Hp} {a' : Act} {w' : World} (h:JX nt F A I Γ w U' sl' hp' a' w') (e:hp'=hp''):JX nt F A I Γ w U' sl' hp'' a' w':=e ▸ h
theorem ZkS:∀ {xs:List AV} {ds:List D},ZuN xs=some ds→xs=ds.map AV.d∧∀ d∈ds,d.plain=true
 | [],ds,h=>by simp only[ZuN] at h;cases h;exact⟨rfl,by simp⟩
 | x :: xs,ds,h=>by
  simp only[ZuN] at h
  obtain⟨d,h1,h⟩:=Za h
  obtain⟨ds',h2,h⟩:=Za h
  cases h
  obtain⟨h3,h4⟩:=ZkS h2
  unfold Zs7 at h1
  split at h1
  ·split at h1
   ·cases h1
    rename_i hp'
    refine⟨by rw[h3];rfl,fun d' hd=>?_⟩
    rcases List.mem_cons.1 hd with rfl | hd
    ·exact hp'
    ·exact h4 d' hd
   ·cases h1
  ·cases h1
theorem ZlQ:∀ ds:List D,Vj (ds.map AV.d)=true
 | []=>rfl
 | d :: ds=>by simp only[List.map_cons,Vj,ZlQ ds,Bool.and_true];rfl
theorem ZF0 {xs:List AV} {ds:List D} (h:ZuN xs=some ds):Vj xs=true:=by
 rw[(ZkS h).1];exact ZlQ ds
theorem datL_rep {w' : World} {S:Nat→Prop} {xs:List AV} {ds:List D} {vs:List Value} (h:ZuN xs=some ds) (hr:Zz (YA Γ w I) xs vs):Yj w' S ds vs:=by
 obtain⟨h1,h2⟩:=ZkS h
 subst h1
 clear h
 induction ds generalizing vs with
 | nil=>cases vs with
  | nil=>simp[Yj]
  | cons _ _=>exact hr.elim
 | cons d ds ih=>cases vs with
  | nil=>exact hr.elim
  | cons v vs=>
   refine⟨v,vs,rfl,hr.1.1,ZjL (h2 d (by simp)) hr.1.2,ih (fun d' hd=>h2 d' (List.mem_cons_of_mem _ hd)) hr.2⟩
theorem ZiR:∀ {xs:List AV} {q:List D×Bool×List Nat},Uy hp xs=some q→Vj xs=true
 | [],q,h=>rfl
 | x :: xs,q,h=>by
  simp only[Uy] at h
  obtain⟨q1,h1,h⟩:=Za h
  obtain⟨q2,h2,h⟩:=Za h
  simp only[Vj,ZiR h2,Bool.and_true]
  cases x<;>first | rfl | cases h1
theorem Zso:∀ {xs:List AV} {q:List D×Bool×List Nat},Uy hp xs=some q→q.1.length=xs.length
 | [],q,h=>by simp only[Uy] at h;cases h;rfl
 | x :: xs,q,h=>by
  simp only[Uy] at h
  obtain⟨q1,h1,h⟩:=Za h
  obtain⟨q2,h2,h⟩:=Za h
  split at h
  ·cases h;simp[Zso h2]
  ·cases h
theorem Zsp:∀ {xs:List AV} {vs:List Value} {q:List D×Bool×List Nat},Uy hp xs=some q→Zz (YA Γ w I) xs vs→Zz (Wk Γ w I) xs vs
 | [],[],q,h,hr=>trivial
 | [],_ :: _,q,h,hr=>hr.elim
 | _ :: _,[],q,h,hr=>hr.elim
 | x :: xs,v :: vs,q,h,hr=>by
  simp only[Uy] at h
  obtain⟨q1,h1,h⟩:=Za h
  obtain⟨q2,h2,h⟩:=Za h
  refine⟨?_,Zsp h2 hr.2⟩
  cases x<;>first | exact hr.1 | cases h1
theorem ZBc (h:Sim nt F A I Γ U sl hp a w) {o:Oper} {t:TypeId} {x y:Operand} {x' y' : Opd} (ho:o.op=.store t x y) (hi:(P.info? t).isSome=true) (hx:Qd x=some x') (hy:Qd y=some y') {slc:List (Option Nat)}
  {base:Nat} (hb:Yd U base) (hd:XI nt o.dst=true) {ce:Zc} (hok:Xl base (base+64) ce.eff.adds=true)
  (hv:Zik (ZbI hp slc (P.cellsOf t) base (evO sl y').cells (evO sl x'))=some ce):ZgL P nt F A I Γ U sl hp a w o base ce:=by
 obtain⟨i,hi⟩:=Option.isSome_iff_exists.1 hi
 unfold Zik at hv
 obtain⟨ef,h1,hv⟩:=Za hv
 cases hv
 have hrx:=h.slOK.ev hx
 have hry:=h.slOK.ev hy
 have gives:∀ (b off:Nat) (cur:Array Value) (e:TypeId),a.eval x=.pointer (some ⟨b,off,none⟩)→w.heap[b]?=some (.cells cur e (0,0))→(a.eval y).cells.size=P.cellsOf t→off+(a.eval y).cells.size≤cur.size →
   (∀ u∈(a.eval y).cells.toList,u.oneCell'=true)→Zpw P o a w undef (w.setRow b (Qp cur.toList off (a.eval y).cells.toList).toArray):=by
  intro b off cur e e1 e2 e3 e4 e5
  refine .inr ⟨?_,rfl⟩
  simp only[execOp,ho,e1,Instr.storeAt,Instr.sureAddr,Sem.run_bind,Sem.run_pure,Result.andThen_ok,Zts hi e3 e2 e4 e5]
 unfold ZbI at h1
 split at h1
 ·
  rename_i id off hx'
  rw[hx'] at hrx
  obtain⟨⟨b,e⟩,hb1,hb2⟩:=hrx
  unfold Zgx at h1
  split at h1
  ·rename_i cs hl
   obtain⟨b',cur,e',hb',hw,hI,hF,hc,_⟩:=h.objs id _ hl
   rw[hb1] at hb';cases hb'
   split at h1
   ·rename_i hcond
    obtain⟨c1,c2,c3,c4⟩:=hcond
    have hvs:=Rep.cells (ZnK c3) hry
    have hlen:(a.eval y).cells.size=P.cellsOf t:=by rw[← c1,hvs.length];simp
    have hcl:cs.length=cur.size:=by rw[hc.length];simp
    have hg:=gives b off cur e hb2 hw hlen (by omega) (ZkQ c3 hvs)
    have hkn:Z3 I I w (w.setRow b (Qp cur.toList off (a.eval y).cells.toList).toArray):=ZdF hI
    have hheap:(w.setRow b (Qp cur.toList off (a.eval y).cells.toList).toArray).heap[b]?=some (.cells (Qp cur.toList off (a.eval y).cells.toList).toArray e (0,0)):=setRow_heap w b cur _ e _ hw
    split at h1
    ·cases h1
     obtain⟨Γ',g1,g2,g3,g5⟩:=ZBa (w.setRow b (Qp cur.toList off (a.eval y).cells.toList).toArray) I F A (base+64) slc (evO sl y').cells (a.eval y).cells.toList base Γ hok (fun k hk hlt=>h.names k (hb k hk hlt)) (hvs.mono fun _ _ h=>h.mono (XA.refl Γ) hkn)
     refine⟨_,_,hg,?_⟩
     rw[Yl]
     refine h.turn hb hl (by rw[hb1];rfl) hI hF g1 (fun k hk=>g2 k (hb.out hk)) g3 (fun k hk=>by rw[g2 k (Zu9 hk).1];exact h.names k (Zu9 hk).2) ?_ trivial hd (hbuf:=fun b hb=>(Zu6 (ZdE c4 (by rw[ZjK];exact Zcx c3)) hb).elim)
     exact⟨b,_,e,g1 _ _ hb1,hheap,hI,hF,by simpa using ZkR (hc.mono fun _ _ h=>h.mono g1 hkn) g5 off,ZbP (ZdE c4 (by rw[ZjK];exact Zcx c3))⟩
    ·cases h1
     refine⟨_,_,hg,?_⟩
     rw[Yl]
     refine h.turn hb hl (by rw[hb1];rfl) hI hF (adds:=[]) (XA.refl Γ) (fun _ _=>rfl) (fun k o hk=>by simp at hk) (fun k hk=>h.names k (fun hu=>hk (.inl hu))) ?_ trivial hd (hbuf:=fun b hb=>(Zu6 (ZdE c4 (Zcx c3)) hb).elim)
     exact⟨b,_,e,hb1,hheap,hI,hF,by simpa using ZkR (hc.mono fun _ _ h=>h.mono (XA.refl Γ) hkn) (hvs.mono fun _ _ h=>h.mono (XA.refl Γ) hkn) off,ZbP (ZdE c4 (Zcx c3))⟩
   ·cases h1
  ·cases h1
 ·
  rename_i id sz j off hx'
  unfold Zd0 at h1
  split at h1
  ·rename_i sz' xs ex hl
   split at h1
   ·rename_i hsz
    subst hsz
    obtain⟨el,hel,h1⟩:=Za h1
    obtain⟨q,hds,h1⟩:=Za h1
    unfold Zgy at h1
    split at h1
    ·rename_i hcond
     obtain⟨c1,c2,c3,c4,c5⟩:=hcond
     cases h1
     have h':=h.freeze q.2.2
     have hl' : lkp (Qu q.2.2 hp) id=some (.row sz xs ex false):=by
      rw[Qm,hl];simp only[Option.map_some,c5,Bool.false_eq_true,if_false]
     have hrx':=h'.slOK.ev hx
     have hry':=h'.slOK.ev hy
     rw[hx'] at hrx'
     obtain⟨b,n,c,hb1,hj,hb2⟩:=hrx'
     obtain⟨ad,n',c',hb',hn,hro⟩:=h'.objs id _ hl'
     rw[hb1] at hb';cases hb'
     rcases hro with hro | ⟨g,cur,e,hg0,hc0,hw,hnc,hcm,hcs,hpos,hfz,hFg,hrE⟩
     ·omega
     ·cases hg0
      simp only[Bool.false_eq_true,if_false] at hfz
      have hvs0:=Rep.cells (ZnK (ZiR hds)) hry
      have hlen:(a.eval y).cells.size=P.cellsOf t:=by
       have:=Zso hds
       have h2:=hvs0.length
       simp at h2
       omega
      have hdl:q.1.length=(a.eval y).cells.toList.length:=by simp;omega
      have hnx:n=xs.length:=hn
      have hjs:j*sz+sz≤cur.size:=by
       rw[hcs,← Nat.succ_mul]
       exact Nat.mul_le_mul_right _ (by omega)
      have hg:=gives b (j*sz+off) cur e hb2 hw hlen (by omega) (ZkQ (ZiR hds) hvs0)
      have hsl:(Qp cur.toList (j*sz+off) (a.eval y).cells.toList).length=cur.size:=by rw[ZfJ];simp;simp;omega
      have hheap:(w.setRow b (Qp cur.toList (j*sz+off) (a.eval y).cells.toList).toArray).heap[b]?=some (.cells (Qp cur.toList (j*sz+off) (a.eval y).cells.toList).toArray e (0,0)):=setRow_heap w b cur _ e _ hw
      refine⟨_,_,hg,JX.of_freeze h q.2.2 ?_⟩
      rw[Yl]
      have hnS0:∀ e' : Bool,¬(if e' then fun b=>Yp Γ w hp I q.2.2 b∧A b else Yp Γ w hp I q.2.2) b:=fun e'=>by cases e' <;> simp<;>(try exact hfz);exact fun hI=>absurd hI hfz
      have hsub:∀ e' : Bool,(e'=true→(ex&&q.2.1)=true∨True)→∀ x,(if ex then fun b=>Yp Γ w hp I q.2.2 b∧A b else Yp Γ w hp I q.2.2) x→(if (ex&&q.2.1) then fun b=>Yp Γ w hp I q.2.2 b∧A b else Yp Γ w hp I q.2.2) x:=fun _ _ x hx=>by
       cases ex<;>cases hq1:q.2.1<;>simp[hq1] at hx ⊢
       ·exact hx
       ·exact hx
       ·exact hx.1
       ·exact hx
      have hsubq:∀ x,(if q.2.1 then fun b=>Yp Γ w hp I q.2.2 b∧A b else Yp Γ w hp I q.2.2) x→(if (ex&&q.2.1) then fun b=>Yp Γ w hp I q.2.2 b∧A b else Yp Γ w hp I q.2.2) x:=fun x hx=>by
       cases ex<;>cases hq1:q.2.1<;>simp[hq1] at hx ⊢
       ·exact hx
       ·exact hx.1
       ·exact hx
       ·exact hx
      have keepx:Z3 (if ex then fun b=>Yp Γ w hp I q.2.2 b∧A b else Yp Γ w hp I q.2.2) (if (ex&&q.2.1) then fun b=>Yp Γ w hp I q.2.2 b∧A b else Yp Γ w hp I q.2.2) w (w.setRow b (Qp cur.toList (j*sz+off) (a.eval y).cells.toList).toArray):=
       ⟨hsub true (fun _=>.inr trivial),fun x hx=>setRow_other w b x _ fun e'=>hnS0 ex (e' ▸ hx)⟩
      have keepq:Z3 (if q.2.1 then fun b=>Yp Γ w hp I q.2.2 b∧A b else Yp Γ w hp I q.2.2) (if (ex&&q.2.1) then fun b=>Yp Γ w hp I q.2.2 b∧A b else Yp Γ w hp I q.2.2) w (w.setRow b (Qp cur.toList (j*sz+off) (a.eval y).cells.toList).toArray):=
       ⟨hsubq,fun x hx=>setRow_other w b x _ fun e'=>hnS0 q.2.1 (e' ▸ hx)⟩
      have hgiven:Yj w (if q.2.1 then fun b=>Yp Γ w hp I q.2.2 b∧A b else Yp Γ w hp I q.2.2) q.1 (a.eval y).cells.toList:=
       (ZpR h.hpOK h.own (Zsp hds hvs0) hds).froze fun S S' hs hq=>hq.mono ⟨hs,fun _ _=>rfl⟩
      refine h'.turn hb hl' (by rw[hb1];simp[ZG,Nat.ne_of_gt hc0]) hfz hFg (adds:=[]) (XA.refl Γ) (fun _ _=>rfl) (fun k o hk=>by simp at hk) (fun k hk=>h.names k (fun hu=>hk (.inl hu))) ?_ trivial hd
      refine⟨_,n,c,hb1,by simp[hn],.inr ⟨b,_,e,rfl,hc0,hheap,hnc,hcm,by simp[hsl,hcs],hpos,by simpa using hfz,hFg,?_⟩⟩
      rw[YZ] at hrE ⊢
      have hcell:∀ p,(w.setRow b (Qp cur.toList (j*sz+off) (a.eval y).cells.toList).toArray).cell? ⟨b,p,none⟩=(Qp cur.toList (j*sz+off) (a.eval y).cells.toList)[p]?:=fun p=>by
       rw[cell_of_row _ _ _ _ _ _ hheap];simp
      have hcell0:∀ p,w.cell? ⟨b,p,none⟩=cur.toList[p]?:=fun p=>by rw[cell_of_row _ _ _ _ _ _ hw];simp
      intro k z hz
      by_cases hkj:k=j
      ·subst hkj
       have hk' : k<xs.length:=(List.getElem?_eq_some_iff.1 hel).1
       rw[List.getElem?_set_self hk'] at hz
       cases hz
       obtain⟨vs,v1,v2,v3⟩:=hrE k el hel
       refine⟨Qp vs off (a.eval y).cells.toList,by rw[ZfJ];exact v1;omega,?_,?_⟩
       ·intro p u hu
        rw[ZbS _ _ _ _ (by omega)] at hu
        rw[hcell,ZbS _ _ _ _ (by simp;omega)]
        split at hu
        ·rename_i hpp
         rw[if_pos (by omega)]
         have:0+k*sz+p-(k*sz+off)=p-off:=by omega
         rw[this];exact hu
        ·rename_i hpp
         rw[if_neg (by omega),← hcell0]
         exact v2 p u hu
       ·have hdr:=hgiven.mono keepq
        generalize hq1:q.1=ds at hdr c3 hdl
        cases el with
        | agg cs=>
         simp only[Zg8,Z2] at v3 ⊢
         exact Yf.2 (ZkR (Yf.1 (v3.mono keepx)) (Yf.1 hdr) off)
        | sl zs=>cases c1
        | _=>
         simp only[D.cells,List.length_singleton] at c2
         have hvl:vs.length=1:=by omega
         obtain⟨v0,rfl⟩:=List.length_eq_one_iff.1 hvl
         have v3':=v3.mono keepx
         cases ds with
         | nil=>
          simp only[Yj] at hdr
          simp only[Zg8,List.headD_nil]
          rw[hdr]
          simp only[Qp,List.append_nil,List.length_nil,Nat.add_zero,List.take_append_drop]
          exact v3'
         | cons d ds=>
          simp only[List.length_cons] at c3
          have hds0:ds=[]:=List.eq_nil_of_length_eq_zero (by omega)
          subst hds0
          have hoff:off=0:=by omega
          subst hoff
          simp only[Yj] at hdr
          obtain⟨v,r,e1,e2,e3,rfl⟩:=hdr
          simp only[Zg8,List.headD_cons]
          have hsp:Qp [v0] 0 (a.eval y).cells.toList=(a.eval y).cells.toList:=by rw[e1];simp[Qp]
          rw[hsp]
          have hgen:∀ l,l=[v]→Z2 (w.setRow b (Qp cur.toList (k*sz+0) (a.eval y).cells.toList).toArray) (if (ex&&q.2.1) then fun b=>Yp Γ w hp I q.2.2 b∧A b else Yp Γ w hp I q.2.2) d l:=fun l hl=>hl ▸ e3
          exact hgen _ e1
      ·rw[List.getElem?_set_ne (Ne.symm hkj)] at hz
       obtain⟨vs,v1,v2,v3⟩:=hrE k z hz
       refine⟨vs,v1,?_,v3.mono keepx⟩
       intro p u hu
       have hp1:p<sz:=by have:=(List.getElem?_eq_some_iff.1 hu).1;omega
       rw[hcell,ZbS _ _ _ _ (by simp;omega),if_neg,← hcell0]
       ·exact v2 p u hu
       ·intro hh
        simp at hh
        rcases Nat.lt_or_gt_of_ne hkj with hlt | hlt
        ·have:(k+1)*sz≤j*sz:=Nat.mul_le_mul_right _ (by omega)
         rw[Nat.add_mul] at this;omega
        ·have:(j+1)*sz≤k*sz:=Nat.mul_le_mul_right _ (by omega)
         rw[Nat.add_mul] at this;omega
    ·cases h1
   ·cases h1
  ·cases h1
 ·cases h1
end
end Go.Abs
