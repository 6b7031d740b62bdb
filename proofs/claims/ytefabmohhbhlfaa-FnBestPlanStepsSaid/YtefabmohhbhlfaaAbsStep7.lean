/- Own text. -/
import Derived.Test.YtefabmohhbhlfaaAbsStepT
set_option linter.unusedVariables false
set_option linter.unusedSimpArgs false
namespace Go.Abs
open Go
section
variable {P:Program} {nt:Nat} {U:Nat→Prop} {F A I:Nat→Prop} {Γ:Gh} {sl:Sl} {hp:Hp} {a:Act} {w:World}
theorem QJ.out {U:Nat→Prop} {base k:Nat} (h:QJ U base) (hk:U k):k<base∨base+64≤k:=by
 rcases KX k base with h1 | h1
 ·exact .inl h1
 ·rcases KX k (base+64) with h2 | h2
  ·exact absurd hk (h k h1 h2)
  ·exact .inr h2
theorem Zol {U:Nat→Prop} {base k:Nat} (h:¬W3 U base k):(k<base∨base+64≤k)∧¬U k:=by
 refine⟨?_,fun hu=>h (.inl hu)⟩;rcases KX k base with h1 | h1
 ·exact .inl h1
 ·rcases KX k (base+64) with h2 | h2
  ·exact absurd (.inr ⟨h1,h2⟩) h
  ·exact .inr h2
theorem W9 {g:Nat} {cur:Array Value} {S:Nat→Prop} (h:¬S g):ZF S S w (w.setRow g cur):=
 ⟨fun _ h=>h,fun b hb=>setRow_other w g b cur fun e=>h (e ▸ hb)⟩
theorem post_eq {U' : Nat→Prop} {sl' : Sl} {hp' aa : Hp} {a' : Act} {w' : World} (h:YB nt F A I Γ w U' sl' hp' a' w') (e:hp'=aa):YB nt F A I Γ w U' sl' aa a' w':=e ▸ h
theorem Zes:∀ {xs:List AV} {ds:List D},ZnR xs=some ds→xs=ds.map AV.d∧∀ d∈ds,d.plain=true
 | [],ds,h=>by simp only[ZnR] at h;cases h;exact⟨rfl,by simp⟩
 | x :: xs,ds,h=>by
  simp only[ZnR] at h;obtain⟨d,h1,h⟩:=Za h;obtain⟨aa,h2,h⟩:=Za h;cases h;obtain⟨h3,h4⟩:=Zes h2;unfold Zmv at h1;split at h1
  ·split at h1
   ·cases h1;rename_i hp';refine⟨by rw[h3];rfl,fun d' hd=>?_⟩;rcases Ke.1 hd with rfl | hd
    ·exact hp'
    ·exact h4 d' hd
   ·cases h1
  ·cases h1
theorem ZfB:∀ ds:List D,QI (ds.map AV.d)=true
 | []=>rfl
 | d :: ds=>by simp only[Kn,QI,ZfB ds,LD];rfl
theorem ZvM {xs:List AV} {ds:List D} (h:ZnR xs=some ds):QI xs=true:=by
 rw[(Zes h).1];exact ZfB ds
theorem datL_rep {w' : World} {S:Nat→Prop} {xs:List AV} {ds:List D} {vs:List Value} (h:ZnR xs=some ds) (hr:Zr (Xd Γ w I) xs vs):QE w' S ds vs:=by
 obtain⟨h1,h2⟩:=Zes h;subst h1;clear h
 induction ds generalizing vs with
 | nil=>cases vs with
  | nil=>simp[QE]
  | cons _ _=>exact hr.elim
 | cons d ds ih=>cases vs with
  | nil=>exact hr.elim
  | cons v vs=>
   refine⟨v,vs,rfl,hr.1.1,Zba (h2 d (by simp)) hr.1.2,ih (fun d' hd=>h2 d' (Ks _ hd)) hr.2⟩
theorem ZcS:∀ {xs:List AV} {q:List D×Bool×List Nat},YS hp xs=some q→QI xs=true
 | [],q,h=>rfl
 | x :: xs,q,h=>by
  simp only[YS] at h;obtain⟨q1,h1,h⟩:=Za h;obtain⟨q2,h2,h⟩:=Za h;simp only[QI,ZcS h2,LD];cases x<;>first | rfl | cases h1
theorem ZlI:∀ {xs:List AV} {q:List D×Bool×List Nat},YS hp xs=some q→q.1.length=xs.length
 | [],q,h=>by simp only[YS] at h;cases h;rfl
 | x :: xs,q,h=>by
  simp only[YS] at h;obtain⟨q1,h1,h⟩:=Za h;obtain⟨q2,h2,h⟩:=Za h;split at h
  ·cases h;simp[ZlI h2]
  ·cases h
theorem ZlJ:∀ {xs:List AV} {vs:List Value} {q:List D×Bool×List Nat},YS hp xs=some q→Zr (Xd Γ w I) xs vs→Zr (XX Γ w I) xs vs
 | [],[],q,h,hr=>trivial
 | [],_ :: _,q,h,hr=>hr.elim
 | _ :: _,[],q,h,hr=>hr.elim
 | x :: xs,v :: vs,q,h,hr=>by
  simp only[YS] at h;obtain⟨q1,h1,h⟩:=Za h;obtain⟨q2,h2,h⟩:=Za h;refine⟨?_,ZlJ h2 hr.2⟩;cases x<;>first | exact hr.1 | cases h1
theorem Ztd (h:Sim nt F A I Γ U sl hp a w) {o:Oper} {t:TypeId} {x y:Operand} {x' y' : Opd} (ho:o.op=.store t x y) (hi:(P.info? t).isSome=true) (hx:ZO x=some x') (hy:ZO y=some y') {slc:List (Option Nat)}
  {base:Nat} (hb:QJ U base) (hd:Qv nt o.dst=true) {ce:Zb} (bq:QA base (base+64) ce.eff.adds=true)
  (hv:Zb8 (U0 hp slc (P.cellsOf t) base (evO sl y').cells (evO sl x'))=some ce):ZaP P nt F A I Γ U sl hp a w o base ce:=by
 obtain⟨i,hi⟩:=K9.1 hi;unfold Zb8 at hv;obtain⟨ef,h1,hv⟩:=Za hv;cases hv;have a3:=h.slOK.ev hx;have a9:=h.slOK.ev hy;have ah:∀ (b off:Nat) (cur:Array Value) (e:TypeId),a.eval x=.pointer (some ⟨b,off,none⟩)→w.heap[b]?=some (.cells cur e (0,0))→(a.eval y).cells.size=P.cellsOf t→off+(a.eval y).cells.size≤cur.size →
   (∀ u∈(a.eval y).cells.toList,u.oneCell'=true)→ZjC P o a w undef (w.setRow b (Zm cur.toList off (a.eval y).cells.toList).toArray):=by
  intro b off cur e e1 e2 e3 e4 e5;refine .inr ⟨?_,rfl⟩;simp only[execOp,ho,e1,Instr.storeAt,Instr.sureAddr,Sem.run_bind,Sem.run_pure,Result.andThen_ok,ZmT hi e3 e2 e4 e5]
 unfold U0 at h1;split at h1
 ·
  rename_i id off aq;rw[aq] at a3;obtain⟨⟨b,e⟩,hb1,hb2⟩:=a3;unfold Zcx at h1;split at h1
  ·rename_i cs hl;obtain⟨b',cur,e',ak,hw,hI,hF,hc,_⟩:=h.objs id _ hl;rw[hb1] at ak;cases ak;split at h1
   ·rename_i ae;obtain⟨c1,c2,c3,c4⟩:=ae;have a4:=Rep.cells (ZcU c3) a9;have ag:(a.eval y).cells.size=P.cellsOf t:=by rw[← c1,a4.length];simp
    have b5:cs.length=cur.size:=by rw[hc.length];simp
    have hg:=ah b off cur e hb2 hw ag (by omega) (Zb5 c3 a4);have a5:ZF I I w (w.setRow b (Zm cur.toList off (a.eval y).cells.toList).toArray):=W9 hI;have aa:(w.setRow b (Zm cur.toList off (a.eval y).cells.toList).toArray).heap[b]?=some (.cells (Zm cur.toList off (a.eval y).cells.toList).toArray e (0,0)):=setRow_heap w b cur _ e _ hw;split at h1
    ·cases h1;obtain⟨Γ',g1,g2,g3,g5⟩:=Ztb (w.setRow b (Zm cur.toList off (a.eval y).cells.toList).toArray) I F A (base+64) slc (evO sl y').cells (a.eval y).cells.toList base Γ bq (fun k hk a'=>h.names k (hb k hk a')) (a4.mono fun _ _ h=>h.mono (Z6.refl Γ) a5);refine⟨_,_,hg,?_⟩;rw[QO];refine h.turn hb hl (by rw[hb1];rfl) hI hF g1 (fun k hk=>g2 k (hb.out hk)) g3 (fun k hk=>by rw[g2 k (Zol hk).1];exact h.names k (Zol hk).2) ?_ trivial hd (hbuf:=fun b hb=>(Zoi (Jm c4 (by rw[Zdr];exact UV c3)) hb).elim);exact⟨b,_,e,g1 _ _ hb1,aa,hI,hF,by simpa using Zet (hc.mono fun _ _ h=>h.mono g1 a5) g5 off,Zb4 (Jm c4 (by rw[Zdr];exact UV c3))⟩
    ·cases h1;refine⟨_,_,hg,?_⟩;rw[QO];refine h.turn hb hl (by rw[hb1];rfl) hI hF (adds:=[]) (Z6.refl Γ) (fun _ _=>rfl) (fun k o hk=>by simp at hk) (fun k hk=>h.names k (fun hu=>hk (.inl hu))) ?_ trivial hd (hbuf:=fun b hb=>(Zoi (Jm c4 (UV c3)) hb).elim);exact⟨b,_,e,hb1,aa,hI,hF,by simpa using Zet (hc.mono fun _ _ h=>h.mono (Z6.refl Γ) a5) (a4.mono fun _ _ h=>h.mono (Z6.refl Γ) a5) off,Zb4 (Jm c4 (UV c3))⟩
   ·cases h1
  ·cases h1
 ·
  rename_i id sz j off aq;unfold JN at h1;split at h1
  ·rename_i br xs ex hl;split at h1
   ·rename_i ba;subst ba;obtain⟨el,a6,h1⟩:=Za h1;obtain⟨q,ai,h1⟩:=Za h1;unfold Zdh at h1;split at h1
    ·rename_i ae;obtain⟨c1,c2,c3,c4,c5⟩:=ae;cases h1;have h':=h.freeze q.2.2;have a7 : lkp (Z8 q.2.2 hp) id=some (.row sz xs ex false):=by
      rw[ZX,hl];simp only[KU,c5,Ka,Kf]
     have au:=h'.slOK.ev hx;have bs:=h'.slOK.ev hy;rw[aq] at au;obtain⟨b,o0,n,c,hb1,hj,hb2⟩:=au;obtain⟨ad,n',c',ak,hn,av⟩:=h'.objs id _ a7;rw[hb1] at ak;cases ak;rcases av with av | ⟨g,Q0,cur,e,bb,aw,hw,bc,bd,am,an,ax,bn,be⟩
     ·omega
     ·cases bb;obtain⟨am,bt⟩:=am;simp only[Ka,Kf] at ax;have af:=Rep.cells (ZcU (ZcS ai)) a9;have ag:(a.eval y).cells.size=P.cellsOf t:=by
       have:=ZlI ai;have h2:=af.length;simp at h2;omega
      have bu:q.1.length=(a.eval y).cells.toList.length:=by simp;omega
      have b6:n=xs.length:=hn;have bo:o0+(j*sz+sz)≤cur.size:=by
       rw[am,← Nat.succ_mul];exact LX (KF _ (by omega)) _
      have hg:=ah b (o0+(j*sz+off)) cur e hb2 hw ag (by omega) (Zb5 (ZcS ai) af);have bf:(Zm cur.toList (o0+(j*sz+off)) (a.eval y).cells.toList).length=cur.size:=by rw[YM];simp;simp;omega
      have aa:(w.setRow b (Zm cur.toList (o0+(j*sz+off)) (a.eval y).cells.toList).toArray).heap[b]?=some (.cells (Zm cur.toList (o0+(j*sz+off)) (a.eval y).cells.toList).toArray e (0,0)):=setRow_heap w b cur _ e _ hw;refine⟨_,_,hg,YB.of_freeze h q.2.2 ?_⟩;rw[QO];have ay:∀ e' : Bool,¬(if e' then fun b=>Q2 Γ w hp I q.2.2 b∧A b else Q2 Γ w hp I q.2.2) b:=fun e'=>by cases e' <;> simp<;>(try exact ax);exact fun hI=>absurd hI ax
      have bg:∀ e' : Bool,(e'=true→(ex&&q.2.1)=true∨True)→∀ x,(if ex then fun b=>Q2 Γ w hp I q.2.2 b∧A b else Q2 Γ w hp I q.2.2) x→(if (ex&&q.2.1) then fun b=>Q2 Γ w hp I q.2.2 b∧A b else Q2 Γ w hp I q.2.2) x:=fun _ _ x hx=>by
       cases ex<;>cases a8:q.2.1<;>simp[a8] at hx ⊢
       ·exact hx
       ·exact hx
       ·exact hx.1
       ·exact hx
      have az:∀ x,(if q.2.1 then fun b=>Q2 Γ w hp I q.2.2 b∧A b else Q2 Γ w hp I q.2.2) x→(if (ex&&q.2.1) then fun b=>Q2 Γ w hp I q.2.2 b∧A b else Q2 Γ w hp I q.2.2) x:=fun x hx=>by
       cases ex<;>cases a8:q.2.1<;>simp[a8] at hx ⊢
       ·exact hx
       ·exact hx.1
       ·exact hx
       ·exact hx
      have aj:ZF (if ex then fun b=>Q2 Γ w hp I q.2.2 b∧A b else Q2 Γ w hp I q.2.2) (if (ex&&q.2.1) then fun b=>Q2 Γ w hp I q.2.2 b∧A b else Q2 Γ w hp I q.2.2) w (w.setRow b (Zm cur.toList (o0+(j*sz+off)) (a.eval y).cells.toList).toArray):=
       ⟨bg true (fun _=>.inr trivial),fun x hx=>setRow_other w b x _ fun e'=>ay ex (e' ▸ hx)⟩
      have a0:ZF (if q.2.1 then fun b=>Q2 Γ w hp I q.2.2 b∧A b else Q2 Γ w hp I q.2.2) (if (ex&&q.2.1) then fun b=>Q2 Γ w hp I q.2.2 b∧A b else Q2 Γ w hp I q.2.2) w (w.setRow b (Zm cur.toList (o0+(j*sz+off)) (a.eval y).cells.toList).toArray):=
       ⟨az,fun x hx=>setRow_other w b x _ fun e'=>ay q.2.1 (e' ▸ hx)⟩
      have ao:QE w (if q.2.1 then fun b=>Q2 Γ w hp I q.2.2 b∧A b else Q2 Γ w hp I q.2.2) q.1 (a.eval y).cells.toList:=
       (Zj2 h.hpOK h.own (ZlJ ai af) ai).froze fun S S' hs hq=>hq.mono ⟨hs,fun _ _=>rfl⟩
      refine h'.turn hb a7 (by rw[hb1];simp[Zq,Ky aw]) ax bn (adds:=[]) (Z6.refl Γ) (fun _ _=>rfl) (fun k o hk=>by simp at hk) (fun k hk=>h.names k (fun hu=>hk (.inl hu))) ?_ trivial hd;refine⟨_,n,c,hb1,by simp[hn],.inr ⟨b,_,_,e,rfl,aw,aa,bc,bd,⟨by simp[bf,am],fun he=>bt (by simp at he;exact he.1)⟩,an,by simpa using ax,bn,?_⟩⟩;rw[XD] at be ⊢;have al:∀ p,(w.setRow b (Zm cur.toList (o0+(j*sz+off)) (a.eval y).cells.toList).toArray).cell? ⟨b,p,none⟩=(Zm cur.toList (o0+(j*sz+off)) (a.eval y).cells.toList)[p]?:=fun p=>by
       rw[cell_of_row _ _ _ _ _ _ aa];simp
      have ab:∀ p,w.cell? ⟨b,p,none⟩=cur.toList[p]?:=fun p=>by rw[cell_of_row _ _ _ _ _ _ hw];simp
      intro k z hz;by_cases bh:k=j
      ·subst bh;have bv : k<xs.length:=(Kd.1 a6).1;rw[LG bv] at hz;cases hz;obtain⟨vs,v1,v2,v3⟩:=be k el a6;refine⟨Zm vs off (a.eval y).cells.toList,by rw[YM];exact v1;omega,?_,?_⟩
       ·intro p u hu;rw[Qa _ _ _ _ (by omega)] at hu;rw[al,Qa _ _ _ _ (by simp;omega)];split at hu
        ·rename_i bw;rw[Km (by omega)];have:o0+k*sz+p-(o0+(k*sz+off))=p-off:=by omega
         rw[this];exact hu
        ·rename_i bw;rw[Kl (by omega),← ab];exact v2 p u hu
       ·have ar:=ao.mono a0;generalize a8:q.1=ds at ar c3 bu;cases el with
        | agg cs=>
         simp only[YT,ZL] at v3 ⊢;exact QW.2 (Zet (QW.1 (v3.mono aj)) (QW.1 ar) off)
        | sl zs=>cases c1
        | _=>
         simp only[D.cells,List.length_singleton] at c2;have bx:vs.length=1:=by omega
         obtain⟨v0,rfl⟩:=List.length_eq_one_iff.1 bx;have bz:=v3.mono aj;cases ds with
         | nil=>
          simp only[QE] at ar;simp only[YT,List.headD_nil];rw[ar];simp only[Zm,K6,KD,L1,LN];exact bz
         | cons d ds=>
          simp only[Ki] at c3;have bi:ds=[]:=Ko (by omega);subst bi;have bj:off=0:=by omega
          subst bj;simp only[QE] at ar;obtain⟨v,r,e1,e2,e3,rfl⟩:=ar;simp only[YT,Kag];have b0:Zm [v0] 0 (a.eval y).cells.toList=(a.eval y).cells.toList:=by rw[e1];simp[Zm]
          rw[b0];have bk:∀ l,l=[v]→ZL (w.setRow b (Zm cur.toList (o0+(k*sz+0)) (a.eval y).cells.toList).toArray) (if (ex&&q.2.1) then fun b=>Q2 Γ w hp I q.2.2 b∧A b else Q2 Γ w hp I q.2.2) d l:=fun l hl=>hl ▸ e3;exact bk _ e1
      ·rw[Lc (Ne.symm bh)] at hz;obtain⟨vs,v1,v2,v3⟩:=be k z hz;refine⟨vs,v1,?_,v3.mono aj⟩;intro p u hu;have b7:p<sz:=by have:=(Kd.1 hu).1;omega
       rw[al,Qa _ _ _ _ (by simp;omega),Kl,← ab]
       ·exact v2 p u hu
       ·intro hh;simp at hh;rcases LJ bh with a' | a'
        ·have:(k+1)*sz≤j*sz:=KF _ (by omega);rw[KI] at this;omega
        ·have:(j+1)*sz≤k*sz:=KF _ (by omega);rw[KI] at this;omega
    ·cases h1
   ·cases h1
  ·rename_i br ns xs lk hl;split at h1
   ·rename_i ba;subst ba;obtain⟨el,a6,h1⟩:=Za h1;obtain⟨q,ai,h1⟩:=Za h1;unfold Zdj at h1;split at h1
    ·rename_i ae;obtain⟨c1,c2,c3,c4,c5⟩:=ae;cases h1;rw[aq] at a3;obtain⟨b,o0,n,c,hb1,hj,hb2⟩:=a3;obtain⟨ad,n',c',ak,⟨hn,av⟩,b1⟩:=h.objs id _ hl;rw[hb1] at ak;cases ak;rcases av with av | ⟨g,cur,e,B,bb,aw,hw,bc,bd,am,an,hE,bl,bm⟩
     ·omega
     ·cases bb;rw[Kz] at hb2;cases el with
      | int _ _=>cases c1
      | bool _=>cases c1
      | str _=>cases c1
      | sl _=>cases c1
      | agg cs=>
       have af:=Rep.cells (ZcU (ZcV ai)) a9;have ag:(a.eval y).cells.size=P.cellsOf t:=by
        have:=ZlO ai;have h2:=af.length;simp at h2;omega
       have b2:(a.eval y).cells.toList.length=P.cellsOf t:=by simpa using ag
       have bo:j*sz+sz≤cur.size:=by
        rw[am,← Nat.succ_mul];exact KF _ (by omega)
       have hg:=ah b (j*sz+off) cur e hb2 hw ag (by omega) (Zb5 (ZcV ai) af);have ap:Zq (Γ id)=some b:=by rw[hb1];simp[Zq,Ky aw]
       obtain⟨Bq,q1,q2,q3,q4⟩:=ZfF h (ZlP ai af) ai;have a1:∀ x∈b :: B,x∉Bq:=fun x hx b3=>by
        obtain⟨k,hk,o',a7,ak⟩:=q4 x b3;have hB:Blk Γ w id (.tree sz ns xs lk) x:=(Ke.1 hx).elim (fun e=>.inl (e ▸ ap)) fun hx=>.inr (.inl ⟨b,B,ap,hE,hx⟩);have:=h.inj id k _ o' x hl a7 hB ak;subst this;simp at c5;exact c5 hk
       have ab:=(KY.1 bl).1;obtain⟨⟨B',t1,t2⟩,t3⟩:=ZpG rfl hw hE b1 a6 (by simpa [D.cells] using c2) (by omega:off+(a.eval y).cells.toList.length≤sz) q1 ab (a1 b (by simp)) bo;rw[b2] at t1 t3;have a2:∀ x∈b :: B',x∈b :: B∨x∈Bq:=fun x hx=>by
        rcases Ke.1 hx with rfl | hx
        ·exact .inl (by simp)
        ·have h1:=KV.2 hx;have h2:=t2 x;rcases Lr (List.count x Bq) with h3 | h3
         ·exact .inl (Ks _ (KV.1 (by omega)))
         ·exact .inr (KV.1 h3)
       have bf:(Zm cur.toList (j*sz+off) (a.eval y).cells.toList).length=cur.size:=by rw[YM];simp;simp;omega
       have aa:(w.setRow b (Zm cur.toList (j*sz+off) (a.eval y).cells.toList).toArray).heap[b]?=some (.cells (Zm cur.toList (j*sz+off) (a.eval y).cells.toList).toArray e (0,0)):=setRow_heap w b cur _ e _ hw;refine⟨_,_,hg,?_⟩;rw[QO];refine h.turnT (dels:=q.2) (by simpa using c5) hl ap (bm b (by simp)).1 (bm b (by simp)).2 (v:=.junk) ?_ trivial hd fun x hx=>?_
       ·refine⟨_,n,c,hb1,⟨by simp[hn],.inr ⟨b,_,e,B',rfl,aw,aa,bc,bd,by simp[bf,am],an,t1,?_,fun x hx=>?_⟩⟩,t3⟩
        ·rw[LR] at bl q2 ⊢;intro x;have h1:=bl x;have h2:=q2 x;have h3:=t2 x;simp only[List.count_cons] at h1 ⊢;rcases Lr (List.count x Bq) with h4 | h4
         ·omega
         ·have h5:x∉b :: B:=fun hm=>a1 x hm (KV.1 h4);have h6:=List.count_eq_zero.2 h5;simp only[List.count_cons] at h6;omega
        ·rcases a2 x hx with hm | hm
         ·exact bm x hm
         ·exact q3 x hm
       ·have aq : x∈b :: B∨x∈Bq:=by
         rcases hx with hx | ⟨g',B2,bp,b4,hx⟩ | hx
         ·rw[Us,ap] at hx;cases hx;exact .inl (by simp)
         ·rw[ap] at bp;cases bp;cases ZP.uniq t1 b4;exact a2 x (Ks _ hx)
         ·exact hx.elim
        rcases aq with hx | hx
        ·exact⟨id,by simp,_,hl,(Ke.1 hx).elim (fun e=>.inl (e ▸ ap)) fun hx=>.inr (.inl ⟨b,B,ap,hE,hx⟩)⟩
        ·obtain⟨k,hk,o',hh⟩:=q4 x hx;exact⟨k,by simp[hk],o',hh⟩
    ·cases h1
   ·cases h1
  ·cases h1
 ·cases h1
end
end Go.Abs
set_option linter.unusedVariables false
set_option linter.unusedSimpArgs false
namespace Go.Abs
open Go
section
variable {P:Program} {nt:Nat} {U:Nat→Prop} {F A I:Nat→Prop} {Γ:Gh} {sl:Sl} {hp:Hp} {a:Act} {w:World}
structure Src (P:Program) (w:World) (u:TypeId) (sz:Nat) (x:Value) (m:Nat) (news:List Value):Prop where
 type:∃ d,P.underlying u=some d∧∀ k,d≠.int k
 len:(Builtin.lenOf x).run P w=.ok m w
 cells:(Builtin.firstCells sz m x).run P w=.ok news.toArray w
 cells' : (Builtin.firstCells sz m x).run P w.drew=.ok news.toArray w.drew
 one:∀ v∈news,v.oneCell'=true
 length:news.length=m*sz
theorem Zao {t u ty e:TypeId} {i:TypeInfo} (ht:P.underlying t=some (.slice e)) (hi:P.info? e=some i) {x:Value} {m:Nat} {news:List Value} (hs:Src P w u i.size x m news)
  {g q n c:Nat} {cur:Array Value} {e' : TypeId} (hg:w.heap[g]?=some (.cells cur e' (0,0))) (aa:n+m≤c) (ab:q+n*i.size+news.length≤cur.size) :
  (Builtin.append_ #[t,u] ty #[.slice (some ⟨g,q,none⟩) n c,x]).run P w=.ok (.slice (some ⟨g,q,none⟩) (n+m) c) (w.setRow g (cur.toList.take (q+n*i.size)++news++cur.toList.drop (q+n*i.size+news.length)).toArray):=by
 obtain⟨d,hd,ad⟩:=hs.type;have ae:=run_storeCells_at P g (q+n*i.size) e' news 0 cur w hg (by simpa using ab) hs.one;simp only[L1] at ae;have hz:(match d with | .int _=>true | _=>false)=false:=by cases d<;>first | rfl | exact absurd rfl (ad _)
 simp only[Builtin.append_,sizeOf,typeInfo];simp[run_underlying ht,run_underlying hd,hi];cases d<;>first | exact absurd rfl (ad _) | skip
 all_goals simp[hs.len,aa,hs.cells,Addr.add_lit,ae]
theorem Zhb {t u ty e:TypeId} {i:TypeInfo} (ht:P.underlying t=some (.slice e)) (hi:P.info? e=some i) {x:Value} {news:List Value} (hs:Src P w u i.size x 0 news) {ad:Option Addr} {n c:Nat} (aa:n≤c) :
  (Builtin.append_ #[t,u] ty #[.slice ad n c,x]).run P w=.ok (.slice ad n c) w:=by
 obtain⟨d,hd,ab⟩:=hs.type;have hn:news=[]:=Ko (by rw[hs.length];simp);have hc:=hs.cells;rw[hn] at hc;simp only[Builtin.append_,sizeOf,typeInfo];simp[run_underlying ht,run_underlying hd,hi];cases d<;>first | exact absurd rfl (ab _) | skip
 all_goals
  simp[hs.len,aa,hc];cases ad<;>simp[storeCells]
theorem Zhc {t u ty e:TypeId} {i:TypeInfo} {z:Value} (ht:P.underlying t=some (.slice e)) (hi:P.info? e=some i) (hz:i.zero=some z) {x:Value} {m:Nat} {news:List Value} (hs:Src P w u i.size x m news)
  {ad:Option Addr} {n c:Nat} {aa:List Value} (ho:(Builtin.firstCells i.size n (.slice ad n c)).run P w.drew=.ok aa.toArray w.drew) (af:c<n+m) (ai:((n+m:Nat):Int)≤9223372036854775807)
  (ag:Builtin.nextslicecap (n+m) c*i.bytes≤281474976710656) :
  (Builtin.append_ #[t,u] ty #[.slice ad n c,x]).run P w=.ok (.slice (some ⟨w.heap.size,0,none⟩) (n+m) (grownCap w (n+m) c e))
   (w.drew.alloc (.cells ((aa++news).toArray++Builtin.zeroCells z.cells (grownCap w (n+m) c e-(n+m))) e)):=by
 obtain⟨d,hd,ah⟩:=hs.type;have hn:¬(n+m≤c):=by omega
 have ab : ¬(9223372036854775807<((n:Int)+(m:Int))):=by omega
 have ae : ¬(281474976710656<Builtin.nextslicecap (n+m) c*i.bytes):=by omega
 simp only[Builtin.append_,sizeOf,typeInfo,zeroValue];simp[run_underlying ht,run_underlying hd,hi,hz];cases d<;>first | exact absurd rfl (ah _) | skip
 all_goals
  simp[hs.len,hn,ab,ae,Question.forced,ho,hs.cells',newRow,grownCap];congr 2
  apply Array.ext';simp
theorem drew_cell (w:World) (a:Addr):w.drew.cell? a=w.cell? a:=rfl
theorem Qe.drew {b o:Nat} {vs:List Value} (h:Qe w b o vs):Qe w.drew b o vs:=h
theorem Ye {sz n c:Nat} {ad:Option Addr} {news:List Value} (hl:news.length=n*sz) (h:n=0∨∃ b o,ad=some ⟨b,o,none⟩∧Qe w b o news) :
  (Builtin.firstCells sz n (.slice ad n c)).run P w=.ok news.toArray w:=by
 rcases h with h | ⟨b,o,rfl,h⟩
 ·subst h;have hn:news=[]:=Ko (by simpa using hl);subst hn;cases ad<;>simp[Builtin.firstCells,loadCells,loadCellsFrom]
 ·exact run_firstCells_some (P:=P) w sz n ⟨b,o,none⟩ n c news hl fun j u hu=>by rw[Vj];exact h j u hu
theorem ZcT {S:Nat→Prop} {b sz:Nat} {xs:List D} {o:Nat} (h:VU w S b sz xs o) (off n:Nat):VU w S b sz ((xs.drop off).take n) (o+off*sz):=by
 rw[XD] at h ⊢;intro i x hx;rw[Lj] at hx;split at hx
 ·rw[Ld] at hx;obtain⟨vs,h1,h2,h3⟩:=h _ x hx;exact⟨vs,h1,by rw[KI,← KK] at h2;exact h2,h3⟩
 ·cases hx
theorem Yq {S:Nat→Prop} {sz:Nat}:ZS w S sz [] []:=trivial
theorem Zap {w' : World} {S S' : Nat→Prop} {sz:Nat}:∀ {xs:List D} {cs:List (List Value)},QD xs→ZS w S sz xs cs→ZS w' S' sz xs cs
 | [],[],_,_=>trivial
 | [],_ :: _,_,h=>h.elim
 | _ :: _,[],_,h=>h.elim
 | x :: xs,c :: cs,hf,h=>⟨⟨h.1.1,ZjY (hf x (by simp)) h.1.2⟩,Zap (fun y hy=>hf y (by simp[hy])) h.2⟩
theorem Zj5 {S:Nat→Prop} {sz:Nat} {xs:List D} {cs:List (List Value)} (h:ZS w S sz xs cs):∀ v∈cs.flatten,v.oneCell'=true:=by
 intro v hv;obtain⟨c,hc,hv⟩:=List.mem_flatten.1 hv;obtain⟨i,hi⟩:=LQ hc;obtain⟨d,_,hd⟩:=Zr.get' h i c hi;obtain⟨j,hj⟩:=LQ hv;obtain⟨d',aa,h1,h2⟩:=(QW.1 hd.2.cells).get' j v hj;exact ZlL (Γ:=fun _=>none) (w:=w) (I:=S) (x:=.d d') rfl ⟨h1,h2⟩
def inS (I A:Nat→Prop) (ex:Bool):Nat→Prop:=if ex then fun b=>I b∧A b else I
theorem Zds {ex:Bool}:∀ b,inS I A ex b→I b:=by
 intro b h;unfold inS at h;cases ex<;>simp at h
 ·exact h
 ·exact h.1
theorem Zdt {ex aa : Bool}:∀ b,inS I A ex b→inS I A (ex&&aa) b:=by
 intro b h;unfold inS at h ⊢;cases ex<;>cases aa <;> simp at h ⊢
 ·exact h
 ·exact h
 ·exact h.1
 ·exact h
theorem Vr {S S' : Nat→Prop} {sz:Nat} (h:∀ b,S b→S' b) {xs:List D} {cs:List (List Value)} (hc:ZS w S sz xs cs):ZS w S' sz xs cs:=hc.mono ⟨h,fun _ _=>rfl⟩
theorem ZuC {S:Nat→Prop} {b o sz:Nat} {xs:List D} (h:VU w S b sz xs o):∃ cs,ZS w S sz xs cs∧Qe w b o cs.flatten:=Xc h
theorem Zj6 {e u:TypeId} {str:Bool} (h:Zg2 P e u=some str):(str=true∧P.underlying u=some .string)∨(str=false∧P.underlying u=some (.slice e)):=by
 unfold Zg2 at h;split at h
 ·rename_i e' he;split at h
  ·rename_i aa;cases h;subst aa;exact .inr ⟨rfl,Qy he⟩
  ·cases h
 ·split at h
  ·rename_i ab;cases h;exact .inl ⟨rfl,Wp ab⟩
  ·cases h
theorem VL {u e:TypeId} (hu:P.underlying u=some (.slice e)) {S:Nat→Prop} {sz n c:Nat} {ad:Option Addr} {ys:List D} (hn:n=ys.length) {cs:List (List Value)} (hc:ZS w S sz ys cs)
  (h:n=0∨∃ b o,ad=some ⟨b,o,none⟩∧Qe w b o cs.flatten):Src P w u sz (.slice ad n c) ys.length cs.flatten:=by
 subst hn;have hl:=hc.length_flatten;exact⟨⟨_,hu,fun k=>by simp⟩,by simp[Builtin.lenOf],Ye hl h,Ye hl (h.imp id fun ⟨b,o,h1,h2⟩=>⟨b,o,h1,h2.drew⟩),Zj5 hc,hl⟩
theorem ZfC {S:Nat→Prop}:∀ (s:List UInt8),ZS w S 1 (s.map fun b=>.int .u8 b.toNat) (s.map fun b=>[.int .u8 b.toNat])
 | []=>trivial
 | b :: s=>⟨⟨rfl,by simp[ZL]⟩,ZfC s⟩
theorem src_ok (ho:Uo Γ w I F A hp) {e u:TypeId} {str flat:Bool} (al:Zg2 P e u=some str) {sz:Nat} {x:AV} {xv:Value} (hx:Rep Γ w I x xv) {q:List D×Bool}
  (hq:(if str then Zjm x else Zcz hp flat x)=some q) (ae:uni sz q.1) (aa:flat=true→QD q.1) :
  ∃ cs,Src P w u sz xv q.1.length cs.flatten∧ZS w (inS I A q.2) sz q.1 cs:=by
 rcases Zj6 al with ⟨rfl,hu⟩ | ⟨rfl,hu⟩
 ·simp only[Kg] at hq;unfold Zjm at hq;split at hq
  ·cases hq;obtain⟨t,rfl,rfl⟩:=ZbD hx;have af:t.data.toList=[]∨sz=1:=by
    cases ht:t.data.toList with
    | nil=>exact .inl rfl
    | cons b l=>right;have:=ae (.int .u8 b.toNat) (by simp[ht]);simpa [D.cells] using this.symm
   refine⟨t.data.toList.map fun b=>[.int .u8 b.toNat],?_,?_⟩
   ·have au:(t.data.toList.map fun b=>[Value.int .u8 b.toNat]).flatten=t.data.toList.map fun b=>Value.int .u8 b.toNat:=by
     induction t.data.toList with
     | nil=>rfl
     | cons b l ih=>simp[ih]
    have ab:t.data.toList.length=t.size:=rfl;have ao:∀ w:World,(Builtin.firstCells sz t.size (.string t)).run P w=.ok (t.data.map fun b=>Value.int .u8 b.toNat) w:=by
     intro w;have hx:t.extract 0 t.size=t:=by apply ByteArray.ext;rw[ByteArray.data_extract];exact Array.extract_size
     show (pure ((t.extract 0 t.size).data.map fun b=>Value.int .u8 b.toNat):Sem (Array Value)).run P w=_;rw[hx];rfl
    have ag:(t.data.toList.map fun b=>Value.int .u8 b.toNat).toArray=t.data.map fun b=>Value.int .u8 b.toNat:=by
     apply Array.ext';simp
    rw[au];simp only[Kt,ab];refine⟨⟨_,hu,fun k=>by simp⟩,by simp[Builtin.lenOf],by rw[ao,ag],by rw[ao,ag],?_,?_⟩
    ·intro v hv;obtain⟨b,_,rfl⟩:=KQ.1 hv;rfl
    ·rcases af with h0 | h1
     ·have:t.size=0:=by rw[← ab,h0];rfl
      simp[h0,this]
     ·subst h1;simp[ab]
   ·rcases af with h0 | h1
    ·rw[h0];exact trivial
    ·subst h1;exact ZfC _
  ·cases hq
 ·simp only[Ka,Kf] at hq;unfold Zcz at hq;split at hq
  ·cases hq;obtain⟨ad,rfl⟩:=hx;exact⟨[],VL hu rfl (Yq (S:=I)) (.inl rfl),trivial⟩
  ·rename_i ys;cases hq;have h1:=QR.1 hx;simp only[Xj,ZL] at h1;obtain⟨ad,c,hv,hc,h1⟩:=h1;simp at hv;subst hv;have hS:∀ {cs},ZS w I sz ys cs→ZS w (inS I A flat) sz ys cs:=by
    intro cs ap;cases flat
    ·exact ap
    ·exact Zap (aa rfl) ap
   rcases h1 with rfl | ⟨b,o,am,rfl,hI,h0,hr⟩
   ·exact⟨[],VL hu rfl (Yq (S:=I)) (.inl rfl),trivial⟩
   ·cases ys with
    | nil=>exact⟨[],VL hu rfl (Yq (S:=I)) (.inl rfl),trivial⟩
    | cons y ys=>
     obtain⟨cs,h2,h3⟩:=Xc hr;have af:am=sz:=by
      obtain⟨vs,h4,h5,h6⟩:=XD.1 hr 0 y (by simp);rw[← h4,h6.length];exact ae y (by simp)
     subst af;exact⟨cs,VL hu rfl h2 (.inr ⟨b,o,rfl,h3⟩),hS h2⟩
  ·rename_i id;unfold Zmw at hq;split at hq
   ·rename_i ai ys ex fz hl;cases hq;obtain⟨ad,n,c,h1,h2,h3⟩:=ho id _ hl;obtain⟨a3,n',c',am,h4,rfl⟩:=hx;rw[h1] at h4;cases h4;rcases h3 with h3 | ⟨g,q0,cur,e',rfl,hc,hw,h4,h5,h6,h7,h8,aw,h9⟩
    ·have hy:ys=[]:=Ko (by omega);subst hy;exact⟨[],VL hu h2 (Yq (S:=I)) (.inl (by simpa using h2)),trivial⟩
    ·cases ys with
     | nil=>exact⟨[],VL hu h2 (Yq (S:=I)) (.inl (by simpa using h2)),trivial⟩
     | cons y ys=>
      obtain⟨cs,ah,aq⟩:=Xc h9;have af:ai=sz:=by
       obtain⟨vs,ar,ax,aj⟩:=XD.1 h9 0 y (by simp);rw[← ar,aj.length];exact ae y (by simp)
      subst af;refine⟨cs,VL hu h2 ah (.inr ⟨g,q0,rfl,aq⟩),?_⟩;cases ex
      ·cases flat
       ·exact ah
       ·exact Zap (aa rfl) ah
      ·exact ah
   ·cases hq
  ·rename_i id off n;unfold ZhH at hq;split at hq
   ·rename_i ai ys ex fz hl;cases hq;obtain⟨ad,m,c,h1,h2,h3⟩:=ho id _ hl;obtain⟨a0,m',c',am,av,h4,h5,h6,rfl,h7,h8⟩:=hx;rw[h1] at h4;cases h4;have an:n=((ys.drop off).take n).length:=by simp;omega
    by_cases ay:n=0
    ·subst ay;simp only[L7];exact⟨[],VL hu rfl (Yq (S:=I)) (.inl rfl),trivial⟩
    ·rcases h3 with h3 | ⟨g,q0,cur,e',rfl,hc,hw,h9,ah,aq,ar,ax,aw,aj⟩
     ·omega
     ·obtain⟨cs,ak,az⟩:=Xc (ZcT aj off n);have af:ai=sz:=by
       obtain⟨y,hy⟩:∃ y,((ys.drop off).take n)[0]?=some y:=⟨_,KE (by omega)⟩
       obtain⟨vs,a1,a4,a2⟩:=XD.1 (ZcT aj off n) 0 y hy;rw[← a1,a2.length];exact ae y (Kp hy)
      subst af;rcases h8 with h8 | h8
      ·subst h8;refine⟨cs,VL hu an ak (.inr ⟨g,q0+off*ai,by simp[Vj],az⟩),?_⟩;cases ex
       ·cases flat
        ·exact ak
        ·exact Zap (aa rfl) ak
       ·exact ak
      ·omega
   ·cases hq
  ·cases hq
end
end Go.Abs
