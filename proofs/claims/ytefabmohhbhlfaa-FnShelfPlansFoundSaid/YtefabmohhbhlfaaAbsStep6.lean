/- Own text. -/
import Derived.Test.YtefabmohhbhlfaaAbsStepT
set_option linter.unusedVariables false
set_option linter.unusedSimpArgs false
namespace Go.Abs
open Go
section
variable {P:Program} {nt:Nat} {U:Nat→Prop} {F A I:Nat→Prop} {Γ:Gh} {sl:Sl} {hp:Hp} {a:Act} {w:World}
theorem Qx.out {U:Nat→Prop} {base k:Nat} (h:Qx U base) (hk:U k):k<base∨base+64≤k:=by
 rcases KZ k base with h1 | h1
 ·exact .inl h1
 ·rcases KZ k (base+64) with h2 | h2
  ·exact absurd hk (h k h1 h2)
  ·exact .inr h2
theorem Zmv {U:Nat→Prop} {base k:Nat} (h:¬Wb U base k):(k<base∨base+64≤k)∧¬U k:=by
 refine⟨?_,fun hu=>h (.inl hu)⟩;rcases KZ k base with h1 | h1
 ·exact .inl h1
 ·rcases KZ k (base+64) with h2 | h2
  ·exact absurd (.inr ⟨h1,h2⟩) h
  ·exact .inr h2
theorem Wh {g:Nat} {cur:Array Value} {S:Nat→Prop} (h:¬S g):ZB S S w (w.setRow g cur):=
 ⟨fun _ h=>h,fun b hb=>setRow_other w g b cur fun e=>h (e ▸ hb)⟩
theorem post_eq {U' : Nat→Prop} {sl' : Sl} {hp' aa : Hp} {a' : Act} {w' : World} (h:X9 nt F A I Γ w U' sl' hp' a' w') (e:hp'=aa):X9 nt F A I Γ w U' sl' aa a' w':=e ▸ h
theorem ZcX:∀ {xs:List AV} {ds:List D},Zl0 xs=some ds→xs=ds.map AV.d∧∀ d∈ds,d.plain=true
 | [],ds,h=>by simp only[Zl0] at h;cases h;exact⟨rfl,by simp⟩
 | x :: xs,ds,h=>by
  simp only[Zl0] at h;obtain⟨d,h1,h⟩:=Za h;obtain⟨aa,h2,h⟩:=Za h;cases h;obtain⟨h3,h4⟩:=ZcX h2;unfold ZkG at h1;split at h1
  ·split at h1
   ·cases h1;rename_i hp';refine⟨by rw[h3];rfl,fun d' hd=>?_⟩;rcases Kf.1 hd with rfl | hd
    ·exact hp'
    ·exact h4 d' hd
   ·cases h1
  ·cases h1
theorem ZdN:∀ ds:List D,QP (ds.map AV.d)=true
 | []=>rfl
 | d :: ds=>by simp only[Kq,QP,ZdN ds,LF];rfl
theorem Ztw {xs:List AV} {ds:List D} (h:Zl0 xs=some ds):QP xs=true:=by
 rw[(ZcX h).1];exact ZdN ds
theorem datL_rep {w' : World} {S:Nat→Prop} {xs:List AV} {ds:List D} {vs:List Value} (h:Zl0 xs=some ds) (hr:Zq (QT Γ w I) xs vs):Qu w' S ds vs:=by
 obtain⟨h1,h2⟩:=ZcX h;subst h1;clear h
 induction ds generalizing vs with
 | nil=>cases vs with
  | nil=>simp[Qu]
  | cons _ _=>exact hr.elim
 | cons d ds ih=>cases vs with
  | nil=>exact hr.elim
  | cons v vs=>
   refine⟨v,vs,rfl,hr.1.1,J1 (h2 d (by simp)) hr.1.2,ih (fun d' hd=>h2 d' (Kt _ hd)) hr.2⟩
theorem ZbA:∀ {xs:List AV} {q:List D×Bool×List Nat},Yo hp xs=some q→QP xs=true
 | [],q,h=>rfl
 | x :: xs,q,h=>by
  simp only[Yo] at h;obtain⟨q1,h1,h⟩:=Za h;obtain⟨q2,h2,h⟩:=Za h;simp only[QP,ZbA h2,LF];cases x<;>first | rfl | cases h1
theorem Zj1:∀ {xs:List AV} {q:List D×Bool×List Nat},Yo hp xs=some q→q.1.length=xs.length
 | [],q,h=>by simp only[Yo] at h;cases h;rfl
 | x :: xs,q,h=>by
  simp only[Yo] at h;obtain⟨q1,h1,h⟩:=Za h;obtain⟨q2,h2,h⟩:=Za h;split at h
  ·cases h;simp[Zj1 h2]
  ·cases h
theorem Zj2:∀ {xs:List AV} {vs:List Value} {q:List D×Bool×List Nat},Yo hp xs=some q→Zq (QT Γ w I) xs vs→Zq (XA Γ w I) xs vs
 | [],[],q,h,hr=>trivial
 | [],_ :: _,q,h,hr=>hr.elim
 | _ :: _,[],q,h,hr=>hr.elim
 | x :: xs,v :: vs,q,h,hr=>by
  simp only[Yo] at h;obtain⟨q1,h1,h⟩:=Za h;obtain⟨q2,h2,h⟩:=Za h;refine⟨?_,Zj2 h2 hr.2⟩;cases x<;>first | exact hr.1 | cases h1
theorem Zq2 (h:Sim nt F A I Γ U sl hp a w) {o:Oper} {t:TypeId} {x y:Operand} {x' y' : Opd} (ho:o.op=.store t x y) (hi:(P.info? t).isSome=true) (hx:ZJ x=some x') (hy:ZJ y=some y') {slc:List (Option Nat)}
  {base:Nat} (hb:Qx U base) (hd:Qm nt o.dst=true) {ce:Zb} (bq:Qr base (base+64) ce.eff.adds=true)
  (hv:Za2 (Ud hp slc (P.cellsOf t) base (evO sl y').cells (evO sl x'))=some ce):JJ P nt F A I Γ U sl hp a w o base ce:=by
 obtain⟨i,hi⟩:=K6.1 hi;unfold Za2 at hv;obtain⟨ef,h1,hv⟩:=Za hv;cases hv;have a3:=h.slOK.ev hx;have a9:=h.slOK.ev hy;have ah:∀ (b off:Nat) (cur:Array Value) (e:TypeId),a.eval x=.pointer (some ⟨b,off,none⟩)→w.heap[b]?=some (.cells cur e (0,0))→(a.eval y).cells.size=P.cellsOf t→off+(a.eval y).cells.size≤cur.size →
   (∀ u∈(a.eval y).cells.toList,u.oneCell'=true)→Zhh P o a w undef (w.setRow b (Zn cur.toList off (a.eval y).cells.toList).toArray):=by
  intro b off cur e e1 e2 e3 e4 e5;refine .inr ⟨?_,rfl⟩;simp only[execOp,ho,e1,Instr.storeAt,Instr.sureAddr,Sem.run_bind,Sem.run_pure,Result.andThen_ok,Zk2 hi e3 e2 e4 e5]
 unfold Ud at h1;split at h1
 ·
  rename_i id off aq;rw[aq] at a3;obtain⟨⟨b,e⟩,hb1,hb2⟩:=a3;unfold Zbf at h1;split at h1
  ·rename_i cs hl;obtain⟨b',cur,e',ak,hw,hI,hF,hc,_⟩:=h.objs id _ hl;rw[hb1] at ak;cases ak;split at h1
   ·rename_i ae;obtain⟨c1,c2,c3,c4⟩:=ae;have a4:=Rep.cells (Zbz c3) a9;have ag:(a.eval y).cells.size=P.cellsOf t:=by rw[← c1,a4.length];simp
    have b5:cs.length=cur.size:=by rw[hc.length];simp
    have hg:=ah b off cur e hb2 hw ag (by omega) (ZaN c3 a4);have a5:ZB I I w (w.setRow b (Zn cur.toList off (a.eval y).cells.toList).toArray):=Wh hI;have aa:(w.setRow b (Zn cur.toList off (a.eval y).cells.toList).toArray).heap[b]?=some (.cells (Zn cur.toList off (a.eval y).cells.toList).toArray e (0,0)):=setRow_heap w b cur _ e _ hw;split at h1
    ·cases h1;obtain⟨Γ',g1,g2,g3,g5⟩:=Zq0 (w.setRow b (Zn cur.toList off (a.eval y).cells.toList).toArray) I F A (base+64) slc (evO sl y').cells (a.eval y).cells.toList base Γ bq (fun k hk a'=>h.names k (hb k hk a')) (a4.mono fun _ _ h=>h.mono (ZY.refl Γ) a5);refine⟨_,_,hg,?_⟩;rw[QB];refine h.turn hb hl (by rw[hb1];rfl) hI hF g1 (fun k hk=>g2 k (hb.out hk)) g3 (fun k hk=>by rw[g2 k (Zmv hk).1];exact h.names k (Zmv hk).2) ?_ trivial hd (hbuf:=fun b hb=>(Zms (Uv c4 (by rw[Zb7];exact W4 c3)) hb).elim);exact⟨b,_,e,g1 _ _ hb1,aa,hI,hF,by simpa using ZcW (hc.mono fun _ _ h=>h.mono g1 a5) g5 off,ZaM (Uv c4 (by rw[Zb7];exact W4 c3))⟩
    ·cases h1;refine⟨_,_,hg,?_⟩;rw[QB];refine h.turn hb hl (by rw[hb1];rfl) hI hF (adds:=[]) (ZY.refl Γ) (fun _ _=>rfl) (fun k o hk=>by simp at hk) (fun k hk=>h.names k (fun hu=>hk (.inl hu))) ?_ trivial hd (hbuf:=fun b hb=>(Zms (Uv c4 (W4 c3)) hb).elim);exact⟨b,_,e,hb1,aa,hI,hF,by simpa using ZcW (hc.mono fun _ _ h=>h.mono (ZY.refl Γ) a5) (a4.mono fun _ _ h=>h.mono (ZY.refl Γ) a5) off,ZaM (Uv c4 (W4 c3))⟩
   ·cases h1
  ·cases h1
 ·
  rename_i id sz j off aq;unfold UK at h1;split at h1
  ·rename_i br xs ex hl;split at h1
   ·rename_i ba;subst ba;obtain⟨el,a6,h1⟩:=Za h1;obtain⟨q,ai,h1⟩:=Za h1;unfold ZbY at h1;split at h1
    ·rename_i ae;obtain⟨c1,c2,c3,c4,c5⟩:=ae;cases h1;have h':=h.freeze q.2.2;have a7 : lkp (Z2 q.2.2 hp) id=some (.row sz xs ex false):=by
      rw[ZU,hl];simp only[KW,c5,Ka,Ki]
     have au:=h'.slOK.ev hx;have bs:=h'.slOK.ev hy;rw[aq] at au;obtain⟨b,o0,n,c,hb1,hj,hb2⟩:=au;obtain⟨ad,n',c',ak,hn,av⟩:=h'.objs id _ a7;rw[hb1] at ak;cases ak;rcases av with av | ⟨g,Q0,cur,e,bb,aw,hw,bc,bd,am,an,ax,bn,be⟩
     ·omega
     ·cases bb;obtain⟨am,bt⟩:=am;simp only[Ka,Ki] at ax;have af:=Rep.cells (Zbz (ZbA ai)) a9;have ag:(a.eval y).cells.size=P.cellsOf t:=by
       have:=Zj1 ai;have h2:=af.length;simp at h2;omega
      have bu:q.1.length=(a.eval y).cells.toList.length:=by simp;omega
      have b6:n=xs.length:=hn;have bo:o0+(j*sz+sz)≤cur.size:=by
       rw[am,← Nat.succ_mul];exact LR (KC _ (by omega)) _
      have hg:=ah b (o0+(j*sz+off)) cur e hb2 hw ag (by omega) (ZaN (ZbA ai) af);have bf:(Zn cur.toList (o0+(j*sz+off)) (a.eval y).cells.toList).length=cur.size:=by rw[Ye];simp;simp;omega
      have aa:(w.setRow b (Zn cur.toList (o0+(j*sz+off)) (a.eval y).cells.toList).toArray).heap[b]?=some (.cells (Zn cur.toList (o0+(j*sz+off)) (a.eval y).cells.toList).toArray e (0,0)):=setRow_heap w b cur _ e _ hw;refine⟨_,_,hg,X9.of_freeze h q.2.2 ?_⟩;rw[QB];have ay:∀ e' : Bool,¬(if e' then fun b=>QK Γ w hp I q.2.2 b∧A b else QK Γ w hp I q.2.2) b:=fun e'=>by cases e' <;> simp<;>(try exact ax);exact fun hI=>absurd hI ax
      have bg:∀ e' : Bool,(e'=true→(ex&&q.2.1)=true∨True)→∀ x,(if ex then fun b=>QK Γ w hp I q.2.2 b∧A b else QK Γ w hp I q.2.2) x→(if (ex&&q.2.1) then fun b=>QK Γ w hp I q.2.2 b∧A b else QK Γ w hp I q.2.2) x:=fun _ _ x hx=>by
       cases ex<;>cases a8:q.2.1<;>simp[a8] at hx ⊢
       ·exact hx
       ·exact hx
       ·exact hx.1
       ·exact hx
      have az:∀ x,(if q.2.1 then fun b=>QK Γ w hp I q.2.2 b∧A b else QK Γ w hp I q.2.2) x→(if (ex&&q.2.1) then fun b=>QK Γ w hp I q.2.2 b∧A b else QK Γ w hp I q.2.2) x:=fun x hx=>by
       cases ex<;>cases a8:q.2.1<;>simp[a8] at hx ⊢
       ·exact hx
       ·exact hx.1
       ·exact hx
       ·exact hx
      have aj:ZB (if ex then fun b=>QK Γ w hp I q.2.2 b∧A b else QK Γ w hp I q.2.2) (if (ex&&q.2.1) then fun b=>QK Γ w hp I q.2.2 b∧A b else QK Γ w hp I q.2.2) w (w.setRow b (Zn cur.toList (o0+(j*sz+off)) (a.eval y).cells.toList).toArray):=
       ⟨bg true (fun _=>.inr trivial),fun x hx=>setRow_other w b x _ fun e'=>ay ex (e' ▸ hx)⟩
      have a0:ZB (if q.2.1 then fun b=>QK Γ w hp I q.2.2 b∧A b else QK Γ w hp I q.2.2) (if (ex&&q.2.1) then fun b=>QK Γ w hp I q.2.2 b∧A b else QK Γ w hp I q.2.2) w (w.setRow b (Zn cur.toList (o0+(j*sz+off)) (a.eval y).cells.toList).toArray):=
       ⟨az,fun x hx=>setRow_other w b x _ fun e'=>ay q.2.1 (e' ▸ hx)⟩
      have ao:Qu w (if q.2.1 then fun b=>QK Γ w hp I q.2.2 b∧A b else QK Γ w hp I q.2.2) q.1 (a.eval y).cells.toList:=
       (ZhI h.hpOK h.own (Zj2 ai af) ai).froze fun S S' hs hq=>hq.mono ⟨hs,fun _ _=>rfl⟩
      refine h'.turn hb a7 (by rw[hb1];simp[Zp,Ku aw]) ax bn (adds:=[]) (ZY.refl Γ) (fun _ _=>rfl) (fun k o hk=>by simp at hk) (fun k hk=>h.names k (fun hu=>hk (.inl hu))) ?_ trivial hd;refine⟨_,n,c,hb1,by simp[hn],.inr ⟨b,_,_,e,rfl,aw,aa,bc,bd,⟨by simp[bf,am],fun he=>bt (by simp at he;exact he.1)⟩,an,by simpa using ax,bn,?_⟩⟩;rw[Xf] at be ⊢;have al:∀ p,(w.setRow b (Zn cur.toList (o0+(j*sz+off)) (a.eval y).cells.toList).toArray).cell? ⟨b,p,none⟩=(Zn cur.toList (o0+(j*sz+off)) (a.eval y).cells.toList)[p]?:=fun p=>by
       rw[cell_of_row _ _ _ _ _ _ aa];simp
      have ab:∀ p,w.cell? ⟨b,p,none⟩=cur.toList[p]?:=fun p=>by rw[cell_of_row _ _ _ _ _ _ hw];simp
      intro k z hz;by_cases bh:k=j
      ·subst bh;have bv : k<xs.length:=(Kc.1 a6).1;rw[LD bv] at hz;cases hz;obtain⟨vs,v1,v2,v3⟩:=be k el a6;refine⟨Zn vs off (a.eval y).cells.toList,by rw[Ye];exact v1;omega,?_,?_⟩
       ·intro p u hu;rw[Z5 _ _ _ _ (by omega)] at hu;rw[al,Z5 _ _ _ _ (by simp;omega)];split at hu
        ·rename_i bw;rw[Ko (by omega)];have:o0+k*sz+p-(o0+(k*sz+off))=p-off:=by omega
         rw[this];exact hu
        ·rename_i bw;rw[Kn (by omega),← ab];exact v2 p u hu
       ·have ar:=ao.mono a0;generalize a8:q.1=ds at ar c3 bu;cases el with
        | agg cs=>
         simp only[Yp,ZH] at v3 ⊢;exact QG.2 (ZcW (QG.1 (v3.mono aj)) (QG.1 ar) off)
        | sl zs=>cases c1
        | _=>
         simp only[D.cells,List.length_singleton] at c2;have bx:vs.length=1:=by omega
         obtain⟨v0,rfl⟩:=List.length_eq_one_iff.1 bx;have bz:=v3.mono aj;cases ds with
         | nil=>
          simp only[Qu] at ar;simp only[Yp,List.headD_nil];rw[ar];simp only[Zn,Lf,KH,LM,Ll];exact bz
         | cons d ds=>
          simp only[Kg] at c3;have bi:ds=[]:=Km (by omega);subst bi;have bj:off=0:=by omega
          subst bj;simp only[Qu] at ar;obtain⟨v,r,e1,e2,e3,rfl⟩:=ar;simp only[Yp,LB];have b0:Zn [v0] 0 (a.eval y).cells.toList=(a.eval y).cells.toList:=by rw[e1];simp[Zn]
          rw[b0];have bk:∀ l,l=[v]→ZH (w.setRow b (Zn cur.toList (o0+(k*sz+0)) (a.eval y).cells.toList).toArray) (if (ex&&q.2.1) then fun b=>QK Γ w hp I q.2.2 b∧A b else QK Γ w hp I q.2.2) d l:=fun l hl=>hl ▸ e3;exact bk _ e1
      ·rw[K8 (Ne.symm bh)] at hz;obtain⟨vs,v1,v2,v3⟩:=be k z hz;refine⟨vs,v1,?_,v3.mono aj⟩;intro p u hu;have b7:p<sz:=by have:=(Kc.1 hu).1;omega
       rw[al,Z5 _ _ _ _ (by simp;omega),Kn,← ab]
       ·exact v2 p u hu
       ·intro hh;simp at hh;rcases LG bh with a' | a'
        ·have:(k+1)*sz≤j*sz:=KC _ (by omega);rw[KG] at this;omega
        ·have:(j+1)*sz≤k*sz:=KC _ (by omega);rw[KG] at this;omega
    ·cases h1
   ·cases h1
  ·rename_i br ns xs lk hl;split at h1
   ·rename_i ba;subst ba;obtain⟨el,a6,h1⟩:=Za h1;obtain⟨q,ai,h1⟩:=Za h1;unfold Zb0 at h1;split at h1
    ·rename_i ae;obtain⟨c1,c2,c3,c4,c5⟩:=ae;cases h1;rw[aq] at a3;obtain⟨b,o0,n,c,hb1,hj,hb2⟩:=a3;obtain⟨ad,n',c',ak,⟨hn,av⟩,b1⟩:=h.objs id _ hl;rw[hb1] at ak;cases ak;rcases av with av | ⟨g,cur,e,B,bb,aw,hw,bc,bd,am,an,hE,bl,bm⟩
     ·omega
     ·cases bb;rw[Lo] at hb2;cases el with
      | int _ _=>cases c1
      | bool _=>cases c1
      | str _=>cases c1
      | sl _=>cases c1
      | agg cs=>
       have af:=Rep.cells (Zbz (ZbC ai)) a9;have ag:(a.eval y).cells.size=P.cellsOf t:=by
        have:=Zj6 ai;have h2:=af.length;simp at h2;omega
       have b2:(a.eval y).cells.toList.length=P.cellsOf t:=by simpa using ag
       have bo:j*sz+sz≤cur.size:=by
        rw[am,← Nat.succ_mul];exact KC _ (by omega)
       have hg:=ah b (j*sz+off) cur e hb2 hw ag (by omega) (ZaN (ZbC ai) af);have ap:Zp (Γ id)=some b:=by rw[hb1];simp[Zp,Ku aw]
       obtain⟨Bq,q1,q2,q3,q4⟩:=ZdR h (Zj7 ai af) ai;have a1:∀ x∈b :: B,x∉Bq:=fun x hx b3=>by
        obtain⟨k,hk,o',a7,ak⟩:=q4 x b3;have hB:Blk Γ w id (.tree sz ns xs lk) x:=(Kf.1 hx).elim (fun e=>.inl (e ▸ ap)) fun hx=>.inr (.inl ⟨b,B,ap,hE,hx⟩);have:=h.inj id k _ o' x hl a7 hB ak;subst this;simp at c5;exact c5 hk
       have ab:=(Ld.1 bl).1;obtain⟨⟨B',t1,t2⟩,t3⟩:=ZnR rfl hw hE b1 a6 (by simpa [D.cells] using c2) (by omega:off+(a.eval y).cells.toList.length≤sz) q1 ab (a1 b (by simp)) bo;rw[b2] at t1 t3;have a2:∀ x∈b :: B',x∈b :: B∨x∈Bq:=fun x hx=>by
        rcases Kf.1 hx with rfl | hx
        ·exact .inl (by simp)
        ·have h1:=KT.2 hx;have h2:=t2 x;rcases Lq (List.count x Bq) with h3 | h3
         ·exact .inl (Kt _ (KT.1 (by omega)))
         ·exact .inr (KT.1 h3)
       have bf:(Zn cur.toList (j*sz+off) (a.eval y).cells.toList).length=cur.size:=by rw[Ye];simp;simp;omega
       have aa:(w.setRow b (Zn cur.toList (j*sz+off) (a.eval y).cells.toList).toArray).heap[b]?=some (.cells (Zn cur.toList (j*sz+off) (a.eval y).cells.toList).toArray e (0,0)):=setRow_heap w b cur _ e _ hw;refine⟨_,_,hg,?_⟩;rw[QB];refine h.turnT (dels:=q.2) (by simpa using c5) hl ap (bm b (by simp)).1 (bm b (by simp)).2 (v:=.junk) ?_ trivial hd fun x hx=>?_
       ·refine⟨_,n,c,hb1,⟨by simp[hn],.inr ⟨b,_,e,B',rfl,aw,aa,bc,bd,by simp[bf,am],an,t1,?_,fun x hx=>?_⟩⟩,t3⟩
        ·rw[LN] at bl q2 ⊢;intro x;have h1:=bl x;have h2:=q2 x;have h3:=t2 x;simp only[List.count_cons] at h1 ⊢;rcases Lq (List.count x Bq) with h4 | h4
         ·omega
         ·have h5:x∉b :: B:=fun hm=>a1 x hm (KT.1 h4);have h6:=List.count_eq_zero.2 h5;simp only[List.count_cons] at h6;omega
        ·rcases a2 x hx with hm | hm
         ·exact bm x hm
         ·exact q3 x hm
       ·have aq : x∈b :: B∨x∈Bq:=by
         rcases hx with hx | ⟨g',B2,bp,b4,hx⟩ | hx
         ·rw[WD,ap] at hx;cases hx;exact .inl (by simp)
         ·rw[ap] at bp;cases bp;cases ZK.uniq t1 b4;exact a2 x (Kt _ hx)
         ·exact hx.elim
        rcases aq with hx | hx
        ·exact⟨id,by simp,_,hl,(Kf.1 hx).elim (fun e=>.inl (e ▸ ap)) fun hx=>.inr (.inl ⟨b,B,ap,hE,hx⟩)⟩
        ·obtain⟨k,hk,o',hh⟩:=q4 x hx;exact⟨k,by simp[hk],o',hh⟩
    ·cases h1
   ·cases h1
  ·cases h1
 ·cases h1
end
end Go.Abs
