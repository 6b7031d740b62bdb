import Derived.Test.YtfnegoimdljanaaGreatDoorAbsStepT
set_option linter.unusedSimpArgs false
set_option linter.unusedVariables false
namespace Go.Abs
open Go
section
variable {P:Program} {nt:Nat} {U:Nat→Prop} {F A I:Nat→Prop} {Γ:Gh} {sl:Sl} {hp:Hp} {a:Act} {w:World}
theorem Xa.out {U:Nat→Prop} {base k:Nat} (h:Xa U base) (hk:U k):k<base∨base+64≤k:=by
 rcases K7 k base with h1 | h1
 ·exact .inl h1
 ·rcases K7 k (base+64) with h2 | h2
  ·exact absurd hk (h k h1 h2)
  ·exact .inr h2
theorem Zv1 {U:Nat→Prop} {base k:Nat} (h:¬UE U base k):(k<base∨base+64≤k)∧¬U k:=by
 refine⟨?_,fun hu=>h (.inl hu)⟩;rcases K7 k base with h1 | h1
 ·exact .inl h1
 ·rcases K7 k (base+64) with h2 | h2
  ·exact absurd (.inr ⟨h1,h2⟩) h
  ·exact .inr h2
theorem UW {g:Nat} {cur:Array Value} {S:Nat→Prop} (h:¬S g):ZO S S w (w.setRow g cur):=
 ⟨fun _ h=>h,fun b hb=>setRow_other w g b cur fun e=>h (e ▸ hb)⟩
theorem Zg0:∀ {xs:List AV} {q:List D×Bool×List Nat},VG hp xs=some q→XA xs=true
 | [],q,h=>rfl
 | x :: xs,q,h=>by
  simp only[VG] at h;obtain⟨q1,h1,h⟩:=Za h;obtain⟨q2,h2,h⟩:=Za h;simp only[XA,Zg0 h2,L6];cases x<;>first | rfl | cases h1
theorem ZsZ:∀ {xs:List AV} {q:List D×Bool×List Nat},VG hp xs=some q→q.1.length=xs.length
 | [],q,h=>by simp only[VG] at h;cases h;rfl
 | x :: xs,q,h=>by
  simp only[VG] at h;obtain⟨q1,h1,h⟩:=Za h;obtain⟨q2,h2,h⟩:=Za h;split at h
  ·cases h;simp[ZsZ h2]
  ·cases h
theorem Zs0:∀ {xs:List AV} {vs:List Value} {q:List D×Bool×List Nat},VG hp xs=some q→Zy (Xw Γ w I) xs vs→Zy (Yw Γ w I) xs vs
 | [],[],q,h,hr=>trivial
 | [],_ :: _,q,h,hr=>hr.elim
 | _ :: _,[],q,h,hr=>hr.elim
 | x :: xs,v :: vs,q,h,hr=>by
  simp only[VG] at h;obtain⟨q1,h1,h⟩:=Za h;obtain⟨q2,h2,h⟩:=Za h;refine⟨?_,Zs0 h2 hr.2⟩;cases x<;>first | exact hr.1 | cases h1
theorem ZBq (h:Sim nt F A I Γ U sl hp a w) {o:Oper} {t:TypeId} {x y:Operand} {x' y' : Opd} (ho:o.op=.store t x y) (hi:(P.info? t).isSome=true) (hx:ZW x=some x') (hy:ZW y=some y') {slc:List (Option Nat)}
  {base:Nat} (hb:Xa U base) (hd:QP nt o.dst=true) {ce:Ze} (bq:QX base (base+64) ce.eff.adds=true)
  (hv:Zgr (Zaz hp slc (P.cellsOf t) base (evO sl y').cells (evO sl x'))=some ce):Zdz P nt F A I Γ U sl hp a w o base ce:=by
 obtain⟨i,hi⟩:=K9.1 hi;unfold Zgr at hv;obtain⟨ef,h1,hv⟩:=Za hv;cases hv;have a3:=h.slOK.ev hx;have a9:=h.slOK.ev hy;have ah:∀ (b off:Nat) (cur:Array Value) (e:TypeId),a.eval x=.pointer (some ⟨b,off,none⟩)→w.heap[b]?=some (.cells cur e (0,0))→(a.eval y).cells.size=P.cellsOf t→off+(a.eval y).cells.size≤cur.size →
   (∀ u∈(a.eval y).cells.toList,u.oneCell'=true)→Zqi P o a w undef (w.setRow b (Zw cur.toList off (a.eval y).cells.toList).toArray):=by
  intro b off cur e e1 e2 e3 e4 e5;refine .inr ⟨?_,rfl⟩;simp only[execOp,ho,e1,Instr.storeAt,Instr.sureAddr,Sem.run_bind,Sem.run_pure,Result.andThen_ok,ZuD hi e3 e2 e4 e5]
 unfold Zaz at h1;split at h1
 ·
  rename_i id off aq;rw[aq] at a3;obtain⟨⟨b,e⟩,hb1,hb2⟩:=a3;unfold ZgI at h1;split at h1
  ·rename_i cs hl;obtain⟨b',cur,e',ak,hw,hI,hF,hc,_⟩:=h.objs id _ hl;rw[hb1] at ak;cases ak;split at h1
   ·rename_i ae;obtain⟨c1,c2,c3,c4⟩:=ae;have a4:=Rep.cells (Zg4 c3) a9;have ag:(a.eval y).cells.size=P.cellsOf t:=by rw[← c1,a4.length];simp
    have b5:cs.length=cur.size:=by rw[hc.length];simp
    have hg:=ah b off cur e hb2 hw ag o_ (Zfd c3 a4);have a5:ZO I I w (w.setRow b (Zw cur.toList off (a.eval y).cells.toList).toArray):=UW hI;have aa:(w.setRow b (Zw cur.toList off (a.eval y).cells.toList).toArray).heap[b]?=some (.cells (Zw cur.toList off (a.eval y).cells.toList).toArray e (0,0)):=setRow_heap w b cur _ e _ hw;split at h1
    ·cases h1;obtain⟨Γ',g1,g2,g3,g5⟩:=ZBp (w.setRow b (Zw cur.toList off (a.eval y).cells.toList).toArray) I F A (base+64) slc (evO sl y').cells (a.eval y).cells.toList base Γ bq (fun k hk a'=>h.names k (hb k hk a')) (a4.mono fun _ _ h=>h.mono (Qa.refl Γ) a5);refine⟨_,_,hg,?_⟩;rw[Xj];refine h.turn hb hl (by rw[hb1];rfl) hI hF g1 (fun k hk=>g2 k (hb.out hk)) g3 (fun k hk=>by rw[g2 k (Zv1 hk).1];exact h.names k (Zv1 hk).2) ?_ trivial hd (hbuf:=fun b hb=>(Zv0 (Za6 c4 (by rw[Zil];exact Zao c3)) hb).elim);exact⟨b,_,e,g1 _ _ hb1,aa,hI,hF,by simpa using ZjR (hc.mono fun _ _ h=>h.mono g1 a5) g5 off,JM (Za6 c4 (by rw[Zil];exact Zao c3))⟩
    ·cases h1;refine⟨_,_,hg,?_⟩;rw[Xj];refine h.turn hb hl (by rw[hb1];rfl) hI hF (adds:=[]) (Qa.refl Γ) (fun _ _=>rfl) (fun k o hk=>by simp at hk) (fun k hk=>h.names k (fun hu=>hk (.inl hu))) ?_ trivial hd (hbuf:=fun b hb=>(Zv0 (Za6 c4 (Zao c3)) hb).elim);exact⟨b,_,e,hb1,aa,hI,hF,by simpa using ZjR (hc.mono fun _ _ h=>h.mono (Qa.refl Γ) a5) (a4.mono fun _ _ h=>h.mono (Qa.refl Γ) a5) off,JM (Za6 c4 (Zao c3))⟩
   ·cases h1
  ·cases h1
 ·
  rename_i id sz j off aq;unfold ZbG at h1;split at h1
  ·rename_i br xs ex hl;split at h1
   ·rename_i ba;subst ba;obtain⟨el,a6,h1⟩:=Za h1;obtain⟨q,ai,h1⟩:=Za h1;unfold Zif at h1;split at h1
    ·rename_i ae;obtain⟨c1,c2,c3,c4,c5⟩:=ae;cases h1;have h':=h.freeze q.2.2;have a7 : lkp (Qm q.2.2 hp) id=some (.row sz xs ex false):=by
      rw[Qc,hl];simp only[K4,c5,Ka,Km]
     have au:=h'.slOK.ev hx;have bs:=h'.slOK.ev hy;rw[aq] at au;obtain⟨b,o0,n,c,hb1,hj,hb2⟩:=au;obtain⟨ad,n',c',ak,hn,av⟩:=h'.objs id _ a7;rw[hb1] at ak;cases ak;rcases av with av | ⟨g,Q0,cur,e,bb,aw,hw,bc,bd,am,an,ax,bn,be⟩
     ·omega
     ·cases bb;obtain⟨am,bt⟩:=am;simp only[Ka,Km] at ax;have af:=Rep.cells (Zg4 (Zg0 ai)) a9;have ag:(a.eval y).cells.size=P.cellsOf t:=by
       have:=ZsZ ai;have h2:=af.length;simp at h2;omega
      have bu:q.1.length=(a.eval y).cells.toList.length:=by simp;omega
      have b6:n=xs.length:=hn;have bo:o0+(j*sz+sz)≤cur.size:=by
       rw[am,← Nat.succ_mul];exact L9 (KM _ o_) _
      have hg:=ah b (o0+(j*sz+off)) cur e hb2 hw ag o_ (Zfd (Zg0 ai) af);have bf:(Zw cur.toList (o0+(j*sz+off)) (a.eval y).cells.toList).length=cur.size:=by rw[Vu];simp;simp;omega
      have aa:(w.setRow b (Zw cur.toList (o0+(j*sz+off)) (a.eval y).cells.toList).toArray).heap[b]?=some (.cells (Zw cur.toList (o0+(j*sz+off)) (a.eval y).cells.toList).toArray e (0,0)):=setRow_heap w b cur _ e _ hw;refine⟨_,_,hg,Vi.of_freeze h q.2.2 ?_⟩;rw[Xj];have ay:∀ e' : Bool,¬(if e' then fun b=>Xu Γ w hp I q.2.2 b∧A b else Xu Γ w hp I q.2.2) b:=fun e'=>by cases e' <;> simp<;>(try exact ax);exact fun hI=>absurd hI ax
      have bg:∀ e' : Bool,(e'=true→(ex&&q.2.1)=true∨True)→∀ x,(if ex then fun b=>Xu Γ w hp I q.2.2 b∧A b else Xu Γ w hp I q.2.2) x→(if (ex&&q.2.1) then fun b=>Xu Γ w hp I q.2.2 b∧A b else Xu Γ w hp I q.2.2) x:=fun _ _ x hx=>by
       cases ex<;>cases a8:q.2.1<;>simp[a8] at hx ⊢
       ·exact hx
       ·exact hx
       ·exact hx.1
       ·exact hx
      have az:∀ x,(if q.2.1 then fun b=>Xu Γ w hp I q.2.2 b∧A b else Xu Γ w hp I q.2.2) x→(if (ex&&q.2.1) then fun b=>Xu Γ w hp I q.2.2 b∧A b else Xu Γ w hp I q.2.2) x:=fun x hx=>by
       cases ex<;>cases a8:q.2.1<;>simp[a8] at hx ⊢
       ·exact hx
       ·exact hx.1
       ·exact hx
       ·exact hx
      have aj:ZO (if ex then fun b=>Xu Γ w hp I q.2.2 b∧A b else Xu Γ w hp I q.2.2) (if (ex&&q.2.1) then fun b=>Xu Γ w hp I q.2.2 b∧A b else Xu Γ w hp I q.2.2) w (w.setRow b (Zw cur.toList (o0+(j*sz+off)) (a.eval y).cells.toList).toArray):=
       ⟨bg true (fun _=>.inr trivial),fun x hx=>setRow_other w b x _ fun e'=>ay ex (e' ▸ hx)⟩
      have a0:ZO (if q.2.1 then fun b=>Xu Γ w hp I q.2.2 b∧A b else Xu Γ w hp I q.2.2) (if (ex&&q.2.1) then fun b=>Xu Γ w hp I q.2.2 b∧A b else Xu Γ w hp I q.2.2) w (w.setRow b (Zw cur.toList (o0+(j*sz+off)) (a.eval y).cells.toList).toArray):=
       ⟨az,fun x hx=>setRow_other w b x _ fun e'=>ay q.2.1 (e' ▸ hx)⟩
      have ao:Q4 w (if q.2.1 then fun b=>Xu Γ w hp I q.2.2 b∧A b else Xu Γ w hp I q.2.2) q.1 (a.eval y).cells.toList:=
       (Zqs h.hpOK h.own (Zs0 ai af) ai).froze fun S S' hs hq=>hq.mono ⟨hs,fun _ _=>rfl⟩
      refine h'.turn hb a7 (by rw[hb1];simp[Zz,KE aw]) ax bn (adds:=[]) (Qa.refl Γ) (fun _ _=>rfl) (fun k o hk=>by simp at hk) (fun k hk=>h.names k (fun hu=>hk (.inl hu))) ?_ trivial hd;refine⟨_,n,c,hb1,by simp[hn],.inr ⟨b,_,_,e,rfl,aw,aa,bc,bd,⟨by simp[bf,am],fun he=>bt (by simp at he;exact he.1)⟩,an,by simpa using ax,bn,?_⟩⟩;rw[X3] at be ⊢;have al:∀ p,(w.setRow b (Zw cur.toList (o0+(j*sz+off)) (a.eval y).cells.toList).toArray).cell? ⟨b,p,none⟩=(Zw cur.toList (o0+(j*sz+off)) (a.eval y).cells.toList)[p]?:=fun p=>by
       rw[cell_of_row _ _ _ _ _ _ aa];simp
      have ab:∀ p,w.cell? ⟨b,p,none⟩=cur.toList[p]?:=fun p=>by rw[cell_of_row _ _ _ _ _ _ hw];simp
      intro k z hz;by_cases bh:k=j
      ·subst bh;have bv : k<xs.length:=(Kc.1 a6).1;rw[LF bv] at hz;cases hz;obtain⟨vs,v1,v2,v3⟩:=be k el a6;refine⟨Zw vs off (a.eval y).cells.toList,by rw[Vu];exact v1;omega,?_,?_⟩
       ·intro p u hu;rw[Qs _ _ _ _ o_] at hu;rw[al,Qs _ _ _ _ (by simp;omega)];split at hu
        ·rename_i bw;rw[Kj o_];have:o0+k*sz+p-(o0+(k*sz+off))=p-off:=o_
         rw[this];exact hu
        ·rename_i bw;rw[Ke o_,← ab];exact v2 p u hu
       ·have ar:=ao.mono a0;generalize a8:q.1=ds at ar c3 bu;cases el with
        | agg cs=>
         simp only[Y6,ZP] at v3 ⊢;exact Xm.2 (ZjR (Xm.1 (v3.mono aj)) (Xm.1 ar) off)
        | sl zs=>cases c1
        | _=>
         simp only[D.cells,List.length_singleton] at c2;have bx:vs.length=1:=o_
         obtain⟨v0,rfl⟩:=List.length_eq_one_iff.1 bx;have bz:=v3.mono aj;cases ds with
         | nil=>
          simp only[Q4] at ar;simp only[Y6,List.headD_nil];rw[ar];simp only[Zw,KD,KL,Kae,LK];exact bz
         | cons d ds=>
          simp only[Kn] at c3;have bi:ds=[]:=Ks o_;subst bi;have bj:off=0:=o_
          subst bj;simp only[Q4] at ar;obtain⟨v,r,e1,e2,e3,rfl⟩:=ar;simp only[Y6,List.headD_cons];have b0:Zw [v0] 0 (a.eval y).cells.toList=(a.eval y).cells.toList:=by rw[e1];simp[Zw]
          rw[b0];have bk:∀ l,l=[v]→ZP (w.setRow b (Zw cur.toList (o0+(k*sz+0)) (a.eval y).cells.toList).toArray) (if (ex&&q.2.1) then fun b=>Xu Γ w hp I q.2.2 b∧A b else Xu Γ w hp I q.2.2) d l:=fun l hl=>hl ▸ e3;exact bk _ e1
      ·rw[Ll (Ne.symm bh)] at hz;obtain⟨vs,v1,v2,v3⟩:=be k z hz;refine⟨vs,v1,?_,v3.mono aj⟩;intro p u hu;have b7:p<sz:=by have:=(Kc.1 hu).1;omega
       rw[al,Qs _ _ _ _ (by simp;omega),Ke,← ab]
       ·exact v2 p u hu
       ·intro hh;simp at hh;rcases LX bh with a' | a'
        ·have:(k+1)*sz≤j*sz:=KM _ o_;rw[KR] at this;omega
        ·have:(j+1)*sz≤k*sz:=KM _ o_;rw[KR] at this;omega
    ·cases h1
   ·cases h1
  ·rename_i br ns xs lk hl;split at h1
   ·rename_i ba;subst ba;obtain⟨el,a6,h1⟩:=Za h1;obtain⟨q,ai,h1⟩:=Za h1;unfold Zih at h1;split at h1
    ·rename_i ae;obtain⟨c1,c2,c3,c4,c5⟩:=ae;cases h1;rw[aq] at a3;obtain⟨b,o0,n,c,hb1,hj,hb2⟩:=a3;obtain⟨ad,n',c',ak,⟨hn,av⟩,b1⟩:=h.objs id _ hl;rw[hb1] at ak;cases ak;rcases av with av | ⟨g,cur,e,B,bb,aw,hw,bc,bd,am,an,hE,bl,bm⟩
     ·omega
     ·cases bb;rw[K8] at hb2;cases el with
      | int _ _=>cases c1
      | bool _=>cases c1
      | str _=>cases c1
      | sl _=>cases c1
      | agg cs=>
       have af:=Rep.cells (Zg4 (Zg5 ai)) a9;have ag:(a.eval y).cells.size=P.cellsOf t:=by
        have:=Ztb ai;have h2:=af.length;simp at h2;omega
       have b2:(a.eval y).cells.toList.length=P.cellsOf t:=by simpa using ag
       have bo:j*sz+sz≤cur.size:=by
        rw[am,← Nat.succ_mul];exact KM _ o_
       have hg:=ah b (j*sz+off) cur e hb2 hw ag o_ (Zfd (Zg5 ai) af);have ap:Zz (Γ id)=some b:=by rw[hb1];simp[Zz,KE aw]
       obtain⟨Bq,q1,q2,q3,q4⟩:=Zk0 h (Ztc ai af) ai;have a1:∀ x∈b :: B,x∉Bq:=fun x hx b3=>by
        obtain⟨k,hk,o',a7,ak⟩:=q4 x b3;have hB:Blk Γ w id (.tree sz ns xs lk) x:=(Kd.1 hx).elim (fun e=>.inl (e ▸ ap)) fun hx=>.inr (.inl ⟨b,B,ap,hE,hx⟩);have:=h.inj id k _ o' x hl a7 hB ak;subst this;simp at c5;exact c5 hk
       have ab:=(Lj.1 bl).1;obtain⟨⟨B',t1,t2⟩,t3⟩:=ZxN rfl hw hE b1 a6 (by simpa [D.cells] using c2) (by omega:off+(a.eval y).cells.toList.length≤sz) q1 ab (a1 b (by simp)) bo;rw[b2] at t1 t3;have a2:∀ x∈b :: B',x∈b :: B∨x∈Bq:=fun x hx=>by
        rcases Kd.1 hx with rfl | hx
        ·exact .inl (by simp)
        ·have h1:=K3.2 hx;have h2:=t2 x;rcases Ly (List.count x Bq) with h3 | h3
         ·exact .inl (Kv _ (K3.1 o_))
         ·exact .inr (K3.1 h3)
       have bf:(Zw cur.toList (j*sz+off) (a.eval y).cells.toList).length=cur.size:=by rw[Vu];simp;simp;omega
       have aa:(w.setRow b (Zw cur.toList (j*sz+off) (a.eval y).cells.toList).toArray).heap[b]?=some (.cells (Zw cur.toList (j*sz+off) (a.eval y).cells.toList).toArray e (0,0)):=setRow_heap w b cur _ e _ hw;refine⟨_,_,hg,?_⟩;rw[Xj];refine h.turnT (dels:=q.2) (by simpa using c5) hl ap (bm b (by simp)).1 (bm b (by simp)).2 (v:=.junk) ?_ trivial hd fun x hx=>?_
       ·refine⟨_,n,c,hb1,⟨by simp[hn],.inr ⟨b,_,e,B',rfl,aw,aa,bc,bd,by simp[bf,am],an,t1,?_,fun x hx=>?_⟩⟩,t3⟩
        ·rw[L4] at bl q2 ⊢;intro x;have h1:=bl x;have h2:=q2 x;have h3:=t2 x;simp only[List.count_cons] at h1 ⊢;rcases Ly (List.count x Bq) with h4 | h4
         ·omega
         ·have h5:x∉b :: B:=fun hm=>a1 x hm (K3.1 h4);have h6:=List.count_eq_zero.2 h5;simp only[List.count_cons] at h6;omega
        ·rcases a2 x hx with hm | hm
         ·exact bm x hm
         ·exact q3 x hm
       ·have aq : x∈b :: B∨x∈Bq:=by
         rcases hx with hx | ⟨g',B2,bp,b4,hx⟩ | hx
         ·rw[JE,ap] at hx;cases hx;exact .inl (by simp)
         ·rw[ap] at bp;cases bp;cases ZY.uniq t1 b4;exact a2 x (Kv _ hx)
         ·exact hx.elim
        rcases aq with hx | hx
        ·exact⟨id,by simp,_,hl,(Kd.1 hx).elim (fun e=>.inl (e ▸ ap)) fun hx=>.inr (.inl ⟨b,B,ap,hE,hx⟩)⟩
        ·obtain⟨k,hk,o',hh⟩:=q4 x hx;exact⟨k,by simp[hk],o',hh⟩
    ·cases h1
   ·cases h1
  ·cases h1
 ·cases h1
end
end Go.Abs
namespace Go.Abs
open Go
section
variable {P:Program} {nt:Nat} {U:Nat→Prop} {F A I:Nat→Prop} {Γ:Gh} {sl:Sl} {hp:Hp} {a:Act} {w:World}
structure Src (P:Program) (w:World) (u:TypeId) (sz:Nat) (x:Value) (m:Nat) (news:List Value):Prop where
 type:∃ d,P.underlying u=some d∧∀ k,d≠.int k
 len:(Builtin.lenOf x).run P w=.ok m w
 cells:(Builtin.firstCells sz m x).run P w=.ok news.toArray w
 cells' : (Builtin.firstCells sz m x).run P w.drew=.ok news.toArray w.drew
 one:∀ v∈news,v.oneCell'=true
 length:news.length=m*sz
theorem Zc1 {t u ty e:TypeId} {i:TypeInfo} (ht:P.underlying t=some (.slice e)) (hi:P.info? e=some i) {x:Value} {m:Nat} {news:List Value} (hs:Src P w u i.size x m news)
  {g q n c:Nat} {cur:Array Value} {e' : TypeId} (hg:w.heap[g]?=some (.cells cur e' (0,0))) (aa:n+m≤c) (ab:q+n*i.size+news.length≤cur.size) :
  (Builtin.append_ #[t,u] ty #[.slice (some ⟨g,q,none⟩) n c,x]).run P w=.ok (.slice (some ⟨g,q,none⟩) (n+m) c) (w.setRow g (cur.toList.take (q+n*i.size)++news++cur.toList.drop (q+n*i.size+news.length)).toArray):=by
 obtain⟨d,hd,ad⟩:=hs.type;have ae:=run_storeCells_at P g (q+n*i.size) e' news 0 cur w hg (by simpa using ab) hs.one;simp only[Kae] at ae;have hz:(match d with | .int _=>true | _=>false)=false:=by cases d<;>first | rfl | exact absurd rfl (ad _)
 simp only[Builtin.append_,sizeOf,typeInfo];simp[run_underlying ht,run_underlying hd,hi];cases d<;>first | exact absurd rfl (ad _) | skip
 all_goals simp[hs.len,aa,hs.cells,Addr.add_lit,ae]
theorem ZnK {t u ty e:TypeId} {i:TypeInfo} (ht:P.underlying t=some (.slice e)) (hi:P.info? e=some i) {x:Value} {news:List Value} (hs:Src P w u i.size x 0 news) {ad:Option Addr} {n c:Nat} (aa:n≤c) :
  (Builtin.append_ #[t,u] ty #[.slice ad n c,x]).run P w=.ok (.slice ad n c) w:=by
 obtain⟨d,hd,ab⟩:=hs.type;have hn:news=[]:=Ks (by rw[hs.length];simp);have hc:=hs.cells;rw[hn] at hc;simp only[Builtin.append_,sizeOf,typeInfo];simp[run_underlying ht,run_underlying hd,hi];cases d<;>first | exact absurd rfl (ab _) | skip
 all_goals
  simp[hs.len,aa,hc];cases ad<;>simp[storeCells]
theorem ZnL {t u ty e:TypeId} {i:TypeInfo} {z:Value} (ht:P.underlying t=some (.slice e)) (hi:P.info? e=some i) (hz:i.zero=some z) {x:Value} {m:Nat} {news:List Value} (hs:Src P w u i.size x m news)
  {ad:Option Addr} {n c:Nat} {aa:List Value} (ho:(Builtin.firstCells i.size n (.slice ad n c)).run P w.drew=.ok aa.toArray w.drew) (af:c<n+m) (ai:((n+m:Nat):Int)≤9223372036854775807)
  (ag:Builtin.nextslicecap (n+m) c*i.bytes≤281474976710656) :
  (Builtin.append_ #[t,u] ty #[.slice ad n c,x]).run P w=.ok (.slice (some ⟨w.heap.size,0,none⟩) (n+m) (grownCap w (n+m) c e))
   (w.drew.alloc (.cells ((aa++news).toArray++Builtin.zeroCells z.cells (grownCap w (n+m) c e-(n+m))) e)):=by
 obtain⟨d,hd,ah⟩:=hs.type;have hn:¬(n+m≤c):=o_
 have ab : ¬(9223372036854775807<((n:Int)+(m:Int))):=o_
 have ae : ¬(281474976710656<Builtin.nextslicecap (n+m) c*i.bytes):=o_
 simp only[Builtin.append_,sizeOf,typeInfo,zeroValue];simp[run_underlying ht,run_underlying hd,hi,hz];cases d<;>first | exact absurd rfl (ah _) | skip
 all_goals
  simp[hs.len,hn,ab,ae,Question.forced,ho,hs.cells',newRow,grownCap];congr 2
  apply Array.ext';simp
theorem Qv.drew {b o:Nat} {vs:List Value} (h:Qv w b o vs):Qv w.drew b o vs:=h
theorem YN {sz n c:Nat} {ad:Option Addr} {news:List Value} (hl:news.length=n*sz) (h:n=0∨∃ b o,ad=some ⟨b,o,none⟩∧Qv w b o news) :
  (Builtin.firstCells sz n (.slice ad n c)).run P w=.ok news.toArray w:=by
 rcases h with h | ⟨b,o,rfl,h⟩
 ·subst h;have hn:news=[]:=Ks (by simpa using hl);subst hn;cases ad<;>simp[Builtin.firstCells,loadCells,loadCellsFrom]
 ·exact run_firstCells_some (P:=P) w sz n ⟨b,o,none⟩ n c news hl fun j u hu=>by rw[VX];exact h j u hu
theorem Zg1 {S:Nat→Prop} {b sz:Nat} {xs:List D} {o:Nat} (h:Wj w S b sz xs o) (off n:Nat):Wj w S b sz ((xs.drop off).take n) (o+off*sz):=by
 rw[X3] at h ⊢;intro i x hx;rw[Lp] at hx;split at hx
 ·rw[Lo] at hx;obtain⟨vs,h1,h2,h3⟩:=h _ x hx;exact⟨vs,h1,by rw[KR,← KS] at h2;exact h2,h3⟩
 ·cases hx
theorem Va {S:Nat→Prop} {sz:Nat}:Z0 w S sz [] []:=trivial
theorem Zc2 {w' : World} {S S' : Nat→Prop} {sz:Nat}:∀ {xs:List D} {cs:List (List Value)},Xb xs→Z0 w S sz xs cs→Z0 w' S' sz xs cs
 | [],[],_,_=>trivial
 | [],_ :: _,_,h=>h.elim
 | _ :: _,[],_,h=>h.elim
 | x :: xs,c :: cs,hf,h=>⟨⟨h.1.1,Zqo (hf x (by simp)) h.1.2⟩,Zc2 (fun y hy=>hf y (by simp[hy])) h.2⟩
theorem Zqm {S:Nat→Prop} {sz:Nat} {xs:List D} {cs:List (List Value)} (h:Z0 w S sz xs cs):∀ v∈cs.flatten,v.oneCell'=true:=by
 intro v hv;obtain⟨c,hc,hv⟩:=List.mem_flatten.1 hv;obtain⟨i,hi⟩:=LA hc;obtain⟨d,_,hd⟩:=Zy.get' h i c hi;obtain⟨j,hj⟩:=LA hv;obtain⟨d',aa,h1,h2⟩:=(Xm.1 hd.2.cells).get' j v hj;exact Zs8 (Γ:=fun _=>none) (w:=w) (I:=S) (x:=.d d') rfl ⟨h1,h2⟩
def inS (I A:Nat→Prop) (ex:Bool):Nat→Prop:=if ex then fun b=>I b∧A b else I
theorem Zim {ex:Bool}:∀ b,inS I A ex b→I b:=by
 intro b h;unfold inS at h;cases ex<;>simp at h
 ·exact h
 ·exact h.1
theorem Zin {ex aa : Bool}:∀ b,inS I A ex b→inS I A (ex&&aa) b:=by
 intro b h;unfold inS at h ⊢;cases ex<;>cases aa <;> simp at h ⊢
 ·exact h
 ·exact h
 ·exact h.1
 ·exact h
theorem V5 {S S' : Nat→Prop} {sz:Nat} (h:∀ b,S b→S' b) {xs:List D} {cs:List (List Value)} (hc:Z0 w S sz xs cs):Z0 w S' sz xs cs:=hc.mono ⟨h,fun _ _=>rfl⟩
theorem Zqn {e u:TypeId} {str:Bool} (h:ZnF P e u=some str):(str=true∧P.underlying u=some .string)∨(str=false∧P.underlying u=some (.slice e)):=by
 unfold ZnF at h;split at h
 ·rename_i e' he;split at h
  ·rename_i aa;cases h;subst aa;exact .inr ⟨rfl,QV he⟩
  ·cases h
 ·split at h
  ·rename_i ab;cases h;exact .inl ⟨rfl,Uq ab⟩
  ·cases h
theorem Wo {u e:TypeId} (hu:P.underlying u=some (.slice e)) {S:Nat→Prop} {sz n c:Nat} {ad:Option Addr} {ys:List D} (hn:n=ys.length) {cs:List (List Value)} (hc:Z0 w S sz ys cs)
  (h:n=0∨∃ b o,ad=some ⟨b,o,none⟩∧Qv w b o cs.flatten):Src P w u sz (.slice ad n c) ys.length cs.flatten:=by
 subst hn;have hl:=hc.length_flatten;exact⟨⟨_,hu,fun k=>by simp⟩,by simp[Builtin.lenOf],YN hl h,YN hl (h.imp id fun ⟨b,o,h1,h2⟩=>⟨b,o,h1,h2.drew⟩),Zqm hc,hl⟩
theorem ZkW {S:Nat→Prop}:∀ (s:List UInt8),Z0 w S 1 (s.map fun b=>.int .u8 b.toNat) (s.map fun b=>[.int .u8 b.toNat])
 | []=>trivial
 | b :: s=>⟨⟨rfl,by simp[ZP]⟩,ZkW s⟩
theorem src_ok (ho:JF Γ w I F A hp) {e u:TypeId} {str flat:Bool} (al:ZnF P e u=some str) {sz:Nat} {x:AV} {xv:Value} (hx:Rep Γ w I x xv) {q:List D×Bool}
  (hq:(if str then ZpO x else ZgK hp flat x)=some q) (ae:uni sz q.1) (aa:flat=true→Xb q.1) :
  ∃ cs,Src P w u sz xv q.1.length cs.flatten∧Z0 w (inS I A q.2) sz q.1 cs:=by
 rcases Zqn al with ⟨rfl,hu⟩ | ⟨rfl,hu⟩
 ·simp only[Kl] at hq;unfold ZpO at hq;split at hq
  ·cases hq;obtain⟨t,rfl,rfl⟩:=ZeO hx;have af:t.data.toList=[]∨sz=1:=by
    cases ht:t.data.toList with
    | nil=>exact .inl rfl
    | cons b l=>right;have:=ae (.int .u8 b.toNat) (by simp[ht]);simpa [D.cells] using this.symm
   refine⟨t.data.toList.map fun b=>[.int .u8 b.toNat],?_,?_⟩
   ·have au:(t.data.toList.map fun b=>[Value.int .u8 b.toNat]).flatten=t.data.toList.map fun b=>Value.int .u8 b.toNat:=by
     induction t.data.toList with
     | nil=>rfl
     | cons b l ih=>simp[ih]
    have ab:t.data.toList.length=t.size:=rfl;have ao:∀ w:World,(Builtin.firstCells sz t.size (.string t)).run P w=.ok (t.data.map fun b=>Value.int .u8 b.toNat) w:=by
     intro w;have hx:t.extract 0 t.size=t:=by apply ByteArray.ext;rw[ByteArray.data_extract];exact Array.extract_size
     show (pure ((t.extract 0 t.size).data.map fun b=>Value.int .u8 b.toNat):Sem (Array Value)).run P w=_;rw[hx];rfl
    have ag:(t.data.toList.map fun b=>Value.int .u8 b.toNat).toArray=t.data.map fun b=>Value.int .u8 b.toNat:=by
     apply Array.ext';simp
    rw[au];simp only[KB,ab];refine⟨⟨_,hu,fun k=>by simp⟩,by simp[Builtin.lenOf],by rw[ao,ag],by rw[ao,ag],?_,?_⟩
    ·intro v hv;obtain⟨b,_,rfl⟩:=Lk.1 hv;rfl
    ·rcases af with h0 | h1
     ·have:t.size=0:=by rw[← ab,h0];rfl
      simp[h0,this]
     ·subst h1;simp[ab]
   ·rcases af with h0 | h1
    ·rw[h0];exact trivial
    ·subst h1;exact ZkW _
  ·cases hq
 ·simp only[Ka,Km] at hq;unfold ZgK at hq;split at hq
  ·cases hq;obtain⟨ad,rfl⟩:=hx;exact⟨[],Wo hu rfl (Va (S:=I)) (.inl rfl),trivial⟩
  ·rename_i ys;cases hq;have h1:=Qi.1 hx;simp only[Xo,ZP] at h1;obtain⟨ad,c,hv,hc,h1⟩:=h1;simp at hv;subst hv;have hS:∀ {cs},Z0 w I sz ys cs→Z0 w (inS I A flat) sz ys cs:=by
    intro cs ap;cases flat
    ·exact ap
    ·exact Zc2 (aa rfl) ap
   rcases h1 with rfl | ⟨b,o,am,rfl,hI,h0,hr⟩
   ·exact⟨[],Wo hu rfl (Va (S:=I)) (.inl rfl),trivial⟩
   ·cases ys with
    | nil=>exact⟨[],Wo hu rfl (Va (S:=I)) (.inl rfl),trivial⟩
    | cons y ys=>
     obtain⟨cs,h2,h3⟩:=XB hr;have af:am=sz:=by
      obtain⟨vs,h4,h5,h6⟩:=X3.1 hr 0 y (by simp);rw[← h4,h6.length];exact ae y (by simp)
     subst af;exact⟨cs,Wo hu rfl h2 (.inr ⟨b,o,rfl,h3⟩),hS h2⟩
  ·rename_i id;unfold Zuk at hq;split at hq
   ·rename_i ai ys ex fz hl;cases hq;obtain⟨ad,n,c,h1,h2,h3⟩:=ho id _ hl;obtain⟨a3,n',c',am,h4,rfl⟩:=hx;rw[h1] at h4;cases h4;rcases h3 with h3 | ⟨g,q0,cur,e',rfl,hc,hw,h4,h5,h6,h7,h8,aw,h9⟩
    ·have hy:ys=[]:=Ks o_;subst hy;exact⟨[],Wo hu h2 (Va (S:=I)) (.inl (by simpa using h2)),trivial⟩
    ·cases ys with
     | nil=>exact⟨[],Wo hu h2 (Va (S:=I)) (.inl (by simpa using h2)),trivial⟩
     | cons y ys=>
      obtain⟨cs,ah,aq⟩:=XB h9;have af:ai=sz:=by
       obtain⟨vs,ar,ax,aj⟩:=X3.1 h9 0 y (by simp);rw[← ar,aj.length];exact ae y (by simp)
      subst af;refine⟨cs,Wo hu h2 ah (.inr ⟨g,q0,rfl,aq⟩),?_⟩;cases ex
      ·cases flat
       ·exact ah
       ·exact Zc2 (aa rfl) ah
      ·exact ah
   ·cases hq
  ·rename_i id off n;unfold ZoT at hq;split at hq
   ·rename_i ai ys ex fz hl;cases hq;obtain⟨ad,m,c,h1,h2,h3⟩:=ho id _ hl;obtain⟨a0,m',c',am,av,h4,h5,h6,rfl,h7,h8⟩:=hx;rw[h1] at h4;cases h4;have an:n=((ys.drop off).take n).length:=by simp;omega
    by_cases ay:n=0
    ·subst ay;simp only[List.take_zero];exact⟨[],Wo hu rfl (Va (S:=I)) (.inl rfl),trivial⟩
    ·rcases h3 with h3 | ⟨g,q0,cur,e',rfl,hc,hw,h9,ah,aq,ar,ax,aw,aj⟩
     ·omega
     ·obtain⟨cs,ak,az⟩:=XB (Zg1 aj off n);have af:ai=sz:=by
       obtain⟨y,hy⟩:∃ y,((ys.drop off).take n)[0]?=some y:=⟨_,KK o_⟩
       obtain⟨vs,a1,a4,a2⟩:=X3.1 (Zg1 aj off n) 0 y hy;rw[← a1,a2.length];exact ae y (Kb hy)
      subst af;rcases h8 with h8 | h8
      ·subst h8;refine⟨cs,Wo hu an ak (.inr ⟨g,q0+off*ai,by simp[VX],az⟩),?_⟩;cases ex
       ·cases flat
        ·exact ak
        ·exact Zc2 (aa rfl) ak
       ·exact ak
      ·omega
   ·cases hq
  ·cases hq
end
end Go.Abs
namespace Go.Abs
open Go
section
variable {P:Program} {nt:Nat} {U:Nat→Prop} {F A I:Nat→Prop} {Γ:Gh} {sl:Sl} {hp:Hp} {a:Act} {w:World}
theorem Sim.moves (h:Sim nt F A I Γ U sl hp a w) {base:Nat} (hb:Xa U base) {id:Nat} {dels:List Nat} (ag:id∈dels) {o0 o1:Zk} (hl:lkp hp id=some o0) {g:Nat} (hg:Zgq (Γ id) o0=some g) (az:¬I g) (a0:F g) {cur:Array Value}
  {r:Ref} (hr:Zz (some r)=some g) (a1:YF (upd Γ base r) (w.setRow g cur) I F A base o1) {v:AV} {u:Value} {dst:Option Nat} (ah:Rep (upd Γ base r) (w.setRow g cur) I v u) (ai:QP nt dst=true)
  (a2:∀ b,Zf7 (upd Γ base r) (w.setRow g cur) base o1 b→∃ k∈dels,∃ o,lkp hp k=some o∧Blk Γ w k o b) (hbuf:∀ b,¬Buf (upd Γ base r) (w.setRow g cur) base o1 b:=by exact fun _ h=>h) :
  Vi nt F A I Γ w (UE U base) (Zs sl dst v) (Zi (Z6 hp dels) [(base,o1)]) (a.put dst u) (w.setRow g cur):=by
 have ab:∀ k,k≠g→(w.setRow g cur).heap[k]?=w.heap[k]?:=fun k hk=>setRow_other w g k cur hk;have aa:ZO I I w (w.setRow g cur):=⟨fun _ h=>h,fun b a3=>ab b fun e=>az (e ▸ a3)⟩
 have aj:(w.setRow g cur).heap.size=w.heap.size:=size_setRow w g cur;have hk:Qa Γ (upd Γ base r):=Vt _ (h.names base hb.self);refine⟨I,upd Γ base r,hk,aa,fun _ h=>.inl h,⟨rfl,rfl,rfl,by rw[aj];exact Kp _,fun k _ a4=>ab k fun e=>a4 (e ▸ a0)⟩,?_⟩;have ak:∀ i o,lkp (Zi (Z6 hp dels) [(base,o1)]) i=some o→(i=base∧o=o1)∨(i≠base∧i∉dels∧lkp hp i=some o):=by
  intro i o hi;simp only[Zi,Qg] at hi;split at hi
  ·rename_i e;cases hi;exact .inl ⟨e.symm,rfl⟩
  ·rename_i e;obtain⟨h1,h2⟩:=V4 _ _ _ _ hi;exact .inr ⟨fun e'=>e e'.symm,h2,h1⟩
 have av:∀ b,Blk (upd Γ base r) (w.setRow g cur) base o1 b→∃ k∈dels,∃ o,lkp hp k=some o∧Blk Γ w k o b:=by
  intro b hb;rcases hb with hb | hb | hb
  ·have h1:=Zik hb;rw[ZJ,hr] at h1;cases h1;exact⟨id,ag,o0,hl,.inl hg⟩
  ·exact a2 b hb
  ·exact absurd hb (hbuf b)
 have ad:∀ i o b,i≠base→i∉dels→lkp hp i=some o→Blk (upd Γ base r) (w.setRow g cur) i o b→Blk Γ w i o b:=fun i o b h1 h2 h3 h4=>
  h4.back (h.objs i o h3) (QI _ _ h1) fun g' a5=>ab g' fun e=>h2 (h.inj i id o o0 g h3 hl (e ▸ a5) (.inl hg) ▸ ag)
 refine h.next hk aa ?_ ?_ (fun b hI=>by rw[aj];exact h.bound b hI) (by rw[aj];exact Kp _) (fun k aw=>by rw[QI _ _ (fun e=>aw (.inr o_))];exact h.names k (fun hu=>aw (.inl hu))) ah ai
 ·intro i o hi;rcases ak i o hi with ⟨rfl,rfl⟩ | ⟨a7,al,hm⟩
  ·exact a1
  ·exact(h.objs i o hm).mono hk aa fun b a6=>⟨ab b fun e=>al (h.inj i id o o0 g hm hl (e ▸ a6) (.inl hg) ▸ ag),fun h=>h⟩
 ·intro i j o o' b hi hj am an;rcases ak i o hi with ⟨rfl,rfl⟩ | ⟨ax,ao,ae⟩<;>rcases ak j o' hj with ⟨rfl,rfl⟩ | ⟨ay,ap,af⟩
  ·rfl
  ·obtain⟨k,aq,ok,ar,au⟩:=av b am;exact absurd (h.inj j k o' ok b af ar (ad j o' b ay ap af an) au ▸ aq) ap
  ·obtain⟨k,aq,ok,ar,au⟩:=av b an;exact absurd (h.inj i k o ok b ae ar (ad i o b ax ao ae am) au ▸ aq) ao
  ·exact h.inj i j o o' b ae af (ad i o b ax ao ae am) (ad j o' b ay ap af an)
theorem Sim.move (h:Sim nt F A I Γ U sl hp a w) {base:Nat} (hb:Xa U base) {id:Nat} {o0:Zk} {s:Nat} {xs:List D} {ex fz:Bool} (hl:lkp hp id=some o0) {g:Nat} (hg:Zgq (Γ id) o0=some g) (ad:¬I g) (ae:F g) {cur:Array Value}
  {r:Ref} (hr:Zz (some r)=some g) (af:YF (upd Γ base r) (w.setRow g cur) I F A base (.row s xs ex fz)) {v:AV} {u:Value} {dst:Option Nat} (aa:Rep (upd Γ base r) (w.setRow g cur) I v u) (ab:QP nt dst=true) :
  Vi nt F A I Γ w (UE U base) (Zs sl dst v) (Zi (Z6 hp [id]) [(base,.row s xs ex fz)]) (a.put dst u) (w.setRow g cur):=
 h.moves hb (by simp) hl hg ad ae hr af aa ab fun _ h=>False.elim h
theorem Zmw {g p q:Nat} {cur:Array Value} {e' : TypeId} (hw:w.heap[g]?=some (.cells cur e' (0,0))) {news os:List Value} (ho:Qv w g q os) (hp:p=q+os.length) (ab:p+news.length≤cur.size) :
  Qv (w.setRow g (cur.toList.take p++news++cur.toList.drop (p+news.length)).toArray) g q (os++news):=by
 intro j u hu;have aa:=setRow_heap w g cur (cur.toList.take p++news++cur.toList.drop (p+news.length)).toArray e' _ hw;rw[cell_of_row _ g _ _ _ _ aa];have hl:(cur.toList.take p).length=p:=by simp;omega
 by_cases hj:j<os.length
 ·rw[KI hj] at hu;have:=ho j u hu;rw[cell_of_row w g _ cur e' _ hw] at this;simp only[Kag];rw[Le,KI o_,Lp,Kj o_];simpa using this
 ·rw[KF o_] at hu;have ad:=(Kc.1 hu).1;simp only[Kag];rw[KI (by rw[Kr];omega),KF o_,hl,← hu];congr 1;omega
theorem ZkX (h:Sim nt F A I Γ U sl hp a w) {base:Nat} (hb:Xa U base) {t u ty e:TypeId} {i:TypeInfo} {z:Value} (ht:P.underlying t=some (.slice e)) (hi:P.info? e=some i) (hz:i.zero=some z) (aj:z.cells.size=i.size) (af:0<i.size)
  {dst:Option Nat} (hd:QP nt dst=true) {ad:Option Addr} {n c:Nat} {xs ys:List D} {ex aa : Bool} {os cs:List (List Value)} {xv:Value}
  (hs:Src P w u i.size xv ys.length cs.flatten) (hc:Z0 w (inS I A aa) i.size ys cs) (hn:n=xs.length) (ag:Z0 w (inS I A ex) i.size xs os) (ak:n=0∨∃ b o,ad=some ⟨b,o,none⟩∧Qv w b o os.flatten)
  (aq:n≤c) (ab:c<n+ys.length) (h1:(n+ys.length)*i.bytes≤ZL) (h2:n+ys.length≤ZL) :
  ∃ v' w',(Builtin.append_ #[t,u] ty #[.slice ad n c,xv]).run P w=.ok v' w'∧Vi nt F A I Γ w (UE U base) (Zs sl dst (.own base)) (Zi hp [(base,.row i.size (xs++ys) (ex&&aa) false)]) (a.put dst v') w':=by
 simp only[ZL] at h1 h2;have ah:=ag.length_flatten;have al:=hc.length_flatten;have ho:=YN (P:=P) (w:=w.drew) (c:=c) (by rw[ah,hn]) (ak.imp id fun ⟨b,o,h1,h2⟩=>⟨b,o,h1,h2.drew⟩);have hr:=ZnL (ty:=ty) ht hi hz hs ho ab o_ (growslice_fits o_ h1);refine⟨_,_,hr,?_⟩;have am:=grownCap_ge w (n+ys.length) c e;have an:grownCap w (n+ys.length) c e≤maxLen:=grownCap_le_maxLen w (n+ys.length) c e (by simp only[maxLen];omega);have ai : (w.drew.alloc (.cells ((os.flatten++cs.flatten).toArray++Builtin.zeroCells z.cells (grownCap w (n+ys.length) c e-(n+ys.length))) e)).heap[w.heap.size]? =
   some (.cells ((os.flatten++cs.flatten).toArray++Builtin.zeroCells z.cells (grownCap w (n+ys.length) c e-(n+ys.length))) e (0,0)):=heap_alloc_new w.drew _
 have ae:∀ k,k<w.heap.size→(w.drew.alloc (.cells ((os.flatten++cs.flatten).toArray++Builtin.zeroCells z.cells (grownCap w (n+ys.length) c e-(n+ys.length))) e)).heap[k]?=w.heap[k]?:=fun k hk=>heap_alloc_old w.drew _ k hk;refine ZuC h hb hd ae (by simp) rfl rfl rfl ai (by simp[hn]) am an ?_ af ?_
 ·simp only[Array.size_append,L5,Kr,size_zeroCells,aj,ah,al,← hn,← KR];congr 1
  omega
 ·have hk:ZO (inS I A (ex&&aa)) (inS I A (ex&&aa)) w (w.drew.alloc (.cells ((os.flatten++cs.flatten).toArray++Builtin.zeroCells z.cells (grownCap w (n+ys.length) c e-(n+ys.length))) e)):=
   ⟨fun _ h=>h,fun b ao=>ae b (h.bound b (Zim b ao))⟩
  have ap:Z0 w (inS I A (ex&&aa)) i.size (xs++ys) (os++cs):=
   (V5 Zin ag).append (V5 (fun b hb=>by rw[Bool.and_comm];exact Zin b hb) hc)
  refine X9 (ap.mono hk) (Vj ai (ys:=(Builtin.zeroCells z.cells (grownCap w (n+ys.length) c e-(n+ys.length))).toList) ?_);simp
theorem ZuB (h:Sim nt F A I Γ U sl hp a w) {base:Nat} (hb:Xa U base) {t u ty e:TypeId} {i:TypeInfo} (ht:P.underlying t=some (.slice e)) (hi:P.info? e=some i)
  {dst:Option Nat} (hd:QP nt dst=true) {ad:Option Addr} {ex:Bool} {cs:List (List Value)} {xv:Value} (hs:Src P w u i.size xv 0 cs.flatten) :
  ∃ v' w',(Builtin.append_ #[t,u] ty #[.slice ad 0 0,xv]).run P w=.ok v' w'∧Vi nt F A I Γ w (UE U base) (Zs sl dst (.own base)) (Zi hp [(base,.row i.size [] ex false)]) (a.put dst v') w':=by
 refine⟨_,_,ZnK ht hi hs (Kp 0),?_⟩;refine h.add (Γ':=upd Γ base (.row ad 0 0 i.size)) (Vt _ (h.names base hb.self)) (fun _ _=>rfl) (Kp _) rfl rfl rfl ?_ ?_ ?_ ?_ ?_ ?_ hd
 ·intro k o' hk;simp at hk;obtain⟨rfl,rfl⟩:=hk;exact⟨ad,0,0,ZJ _ _ _,rfl,.inl ⟨rfl,rfl⟩⟩
 ·intro i j o1 o2 b hi hj _ _;simp at hi hj;omega
 ·intro k o' b hk ab;simp at hk;obtain⟨rfl,rfl⟩:=hk;exact(ab.nil (by rw[ZJ];cases ad<;>simp[Zz])).elim
 ·intro k hk;exact QI _ _ (fun e=>hb.self (e ▸ hk))
 ·intro id aa;rw[QI _ _ (fun e=>aa (.inr o_))];exact h.names id (fun hu=>aa (.inl hu))
 ·exact⟨ad,0,0,_,ZJ _ _ _,rfl⟩
theorem ZyR (h:Sim nt F A I Γ U sl hp a w) {base:Nat} (hb:Xa U base) {t u ty e:TypeId} {i:TypeInfo} {z:Value} (ht:P.underlying t=some (.slice e)) (hi:P.info? e=some i) (hz:i.zero=some z) (an:z.cells.size=i.size) (ab:0<i.size)
  {dst:Option Nat} (hd:QP nt dst=true) {id:Nat} {xs ys:List D} {ex aj : Bool} (hl:lkp hp id=some (.row i.size xs ex false)) {ad:Option Addr} {n m c:Nat} (hg:Γ id=some (.row ad m c i.size)) (a4:n≤m)
  {cs:List (List Value)} {xv:Value} (hs:Src P w u i.size xv ys.length cs.flatten) (hc:Z0 w (inS I A aj) i.size ys cs)
  (h1:(n+ys.length)*i.bytes≤ZL) (h2:n+ys.length≤ZL) :
  ∃ v' w',(Builtin.append_ #[t,u] ty #[.slice ad n c,xv]).run P w=.ok v' w'∧Vi nt F A I Γ w (UE U base) (Zs sl dst (.own base)) (Zi (Z6 hp [id]) [(base,.row i.size (xs.take n++ys) (ex&&aj) false)]) (a.put dst v') w':=by
 obtain⟨a5,m',c',ao,hm,au⟩:=h.objs id _ hl;rw[hg] at ao;cases ao;have ae:=h.sub (hp':=Z6 hp [id]) fun k o hk=>(V4 _ _ _ _ hk).1;rcases au with ⟨av,af⟩ | ⟨g,q0,cur,e',rfl,af,hw,a6,aw,al,_,ak,ap,ax⟩
 ·subst av;subst af;have ay:n=0:=o_
  subst ay;simp only[List.take_zero,Lm];by_cases hy:ys.length=0
  ·have az:=Ks hy;subst az;exact ZuB ae hb ht hi hd hs
  ·have:=ZkX (ty:=ty) (ad:=ad) (n:=0) (c:=0) (xs:=[]) (ex:=ex) (os:=[]) ae hb ht hi hz an ab hd hs hc rfl Va (.inl rfl) (Kp 0) o_ h1 h2;simpa using this
 ·have ag:=Zg1 ax 0 n;simp only[List.drop_zero,Nat.zero_mul,Kae] at ag;obtain⟨os,am,aq⟩:=XB ag;have hn:n=(xs.take n).length:=by simp;omega
  obtain⟨al,a0⟩:=al;by_cases aa:n+ys.length≤c
  ·have ar:=am.length_flatten;rw[← hn] at ar;have a1:=hc.length_flatten;have ah:q0+n*i.size+cs.flatten.length≤cur.size:=by rw[a1,al,KS,← KR];exact L9 (KM _ aa) _
   have hr:=Zc1 (ty:=ty) ht hi hs hw aa ah;refine⟨_,_,hr,?_⟩;simp only[Ka,Km] at ak;have ai:(w.setRow g (cur.toList.take (q0+n*i.size)++cs.flatten++cur.toList.drop (q0+n*i.size+cs.flatten.length)).toArray).heap[g]?=some (.cells (cur.toList.take (q0+n*i.size)++cs.flatten++cur.toList.drop (q0+n*i.size+cs.flatten.length)).toArray e' (0,0)):=
    setRow_heap w g cur _ e' _ hw
   refine h.move hb hl (by rw[hg];simp[Zz,KE af]) ak ap (r:=.row (some ⟨g,q0,none⟩) (n+ys.length) c i.size) (by simp[Zz,KE af]) ?_ ?_ hd
   ·refine⟨_,n+ys.length,c,ZJ _ _ _,by rw[Kr,← hn],.inr ⟨g,q0,_,e',rfl,af,ai,aa,aw,⟨?_,fun he=>a0 (by simp at he;exact he.1)⟩,ab,by simpa using ak,ap,?_⟩⟩
    ·simp only[L5,Kr,LB,LV,K5];omega
    ·have a2:¬inS I A (ex&&aj) g:=fun hi=>ak (Zim g hi);have a3:Z0 w (inS I A (ex&&aj)) i.size (xs.take n++ys) (os++cs):=
      (V5 Zin (show Z0 w (inS I A ex) i.size (xs.take n) os from am)).append (V5 (fun b hb=>by rw[Bool.and_comm];exact Zin b hb) hc)
     refine X9 (a3.mono (UW a2)) ?_;rw[Lv];exact Zmw hw aq (by rw[ar]) ah
   ·exact⟨_,_,_,_,ZJ _ _ _,rfl⟩
  ·exact ZkX (ty:=ty) ae hb ht hi hz an ab hd hs hc hn am (.inr ⟨g,q0,rfl,aq⟩) o_ o_ h1 h2
theorem ZBr (h:Sim nt F A I Γ U sl hp a w) {base:Nat} (hb:Xa U base) {t u ty e:TypeId} {i:TypeInfo} {z:Value} (ht:P.underlying t=some (.slice e)) (hi:P.info? e=some i) (hz:i.zero=some z) (ao:z.cells.size=i.size) (ab:0<i.size)
  {dst:Option Nat} (hd:QP nt dst=true) {id:Nat} {xs ys:List D} {ex az : Bool} (hl:lkp hp id=some (.row i.size xs ex false)) {ad:Option Addr} {off n m c:Nat} (hg:Γ id=some (.row ad m c i.size)) (a':off+n≤m) (ba:m≤c)
  {av:Option Addr} (a0:av=ad.map (·.add (off*i.size))∨c=off)
  {cs:List (List Value)} {xv:Value} (hs:Src P w u i.size xv ys.length cs.flatten) (hc:Z0 w (inS I A az) i.size ys cs)
  (h1:(n+ys.length)*i.bytes≤ZL) (h2:n+ys.length≤ZL) :
  ∃ v' w',(Builtin.append_ #[t,u] ty #[.slice av n (c-off),xv]).run P w=.ok v' w'∧Vi nt F A I Γ w (UE U base) (Zs sl dst (.own base)) (Zi (Z6 hp [id]) [(base,.row i.size ((xs.drop off).take n++ys) false false)]) (a.put dst v') w':=by
 obtain⟨bb,m',c',ap,hm,a1⟩:=h.objs id _ hl;rw[hg] at ap;cases ap;have ae:=h.sub (hp':=Z6 hp [id]) fun k o hk=>(V4 _ _ _ _ hk).1;by_cases aj : c=off
 ·have a2:n=0:=o_
  subst a2;have a3:c-off=0:=o_
  rw[a3];simp only[List.take_zero,Lm];by_cases hy:ys.length=0
  ·have a4:=Ks hy;subst a4;exact ZuB ae hb ht hi hd hs
  ·have:=ZkX (ty:=ty) (ad:=av) (n:=0) (c:=0) (xs:=[]) (ex:=false) (os:=[]) ae hb ht hi hz ao ab hd hs hc rfl Va (.inl rfl) (Kp 0) o_ h1 h2;simpa using this
 ·rcases a1 with ⟨bc,aq⟩ | ⟨g,q0,cur,e',rfl,aq,hw,a5,bd,ak,_,ai,ar,a6⟩
  ·omega
  ·obtain rfl:=a0.resolve_right aj;have al:=Zg1 a6 off n;obtain⟨os,au,aw⟩:=XB al;have hn:n=((xs.drop off).take n).length:=by simp;omega
   have af : Z0 w (inS I A false) i.size ((xs.drop off).take n) os:=V5 (fun b hb=>Zim b hb) (show Z0 w (inS I A ex) i.size ((xs.drop off).take n) os from au);have am : (some (⟨g,q0,none⟩:Addr)).map (·.add (off*i.size))=some ⟨g,q0+off*i.size,none⟩:=by simp[VX]
   rw[am];obtain⟨ak,_⟩:=ak;by_cases aa:n+ys.length≤c-off
   ·have ax:=au.length_flatten;rw[← hn] at ax;have a7:=hc.length_flatten;have an : cur.size=q0+off*i.size+(c-off)*i.size:=by rw[ak,KS,← KR];congr 2;omega
    have ag:q0+off*i.size+n*i.size+cs.flatten.length≤cur.size:=by rw[a7,an,KS,← KR];exact L9 (KM _ aa) _
    have hr:=Zc1 (ty:=ty) ht hi hs hw aa ag;refine⟨_,_,hr,?_⟩;simp only[Ka,Km] at ai;have ah:(w.setRow g (cur.toList.take (q0+off*i.size+n*i.size)++cs.flatten++cur.toList.drop (q0+off*i.size+n*i.size+cs.flatten.length)).toArray).heap[g]?=some (.cells (cur.toList.take (q0+off*i.size+n*i.size)++cs.flatten++cur.toList.drop (q0+off*i.size+n*i.size+cs.flatten.length)).toArray e' (0,0)):=
     setRow_heap w g cur _ e' _ hw
    have ay:0<c-off:=o_
    refine h.move hb hl (by rw[hg];simp[Zz,KE aq]) ai ar (r:=.row (some ⟨g,q0+off*i.size,none⟩) (n+ys.length) (c-off) i.size) (by simp[Zz,KE ay]) ?_ ?_ hd
    ·refine⟨_,n+ys.length,c-off,ZJ _ _ _,by rw[Kr,← hn],.inr ⟨g,q0+off*i.size,_,e',rfl,ay,ah,aa,o_,⟨?_,fun he=>by cases he⟩,ab,by simpa using ai,ar,?_⟩⟩
     ·simp only[L5,Kr,LB,LV,K5];omega
     ·have a8:¬inS I A false g:=fun hi=>ai (Zim g hi);have a9:Z0 w (inS I A false) i.size ((xs.drop off).take n++ys) (os++cs):=af.append (V5 (fun b hb=>Zim b hb) hc);refine X9 (a9.mono (UW a8)) ?_;rw[Lv];exact Zmw hw aw (by rw[ax]) ag
    ·exact⟨_,_,_,_,ZJ _ _ _,rfl⟩
   ·exact ZkX (ty:=ty) (ex:=false) ae hb ht hi hz ao ab hd hs hc hn af (.inr ⟨g,q0+off*i.size,rfl,aw⟩) o_ o_ h1 h2
theorem ZBs (h:Sim nt F A I Γ U sl hp a w) {base:Nat} (hb:Xa U base) {t u ty e:TypeId} {i:TypeInfo} (ht:P.underlying t=some (.slice e)) (hi:P.info? e=some i)
  {dst:Option Nat} (hd:QP nt dst=true) {id:Nat} {xs ys:List D} {ex ae : Bool} (hl:lkp hp id=some (.row i.size xs ex false)) {ad:Option Addr} {n m c:Nat} (hg:Γ id=some (.row ad m c i.size))
  {cs:List (List Value)} {xv:Value} (hs:Src P w u i.size xv ys.length cs.flatten) (hc:Z0 w (inS I A ae) i.size ys cs) (h0:0<xs.length) (h1:n+ys.length≤xs.length) :
  ∃ v' w',(Builtin.append_ #[t,u] ty #[.slice ad n c,xv]).run P w=.ok v' w'∧Vi nt F A I Γ w (UE U base) (Zs sl dst (.ownv base 0 (n+ys.length))) (Zi (Z6 hp [id]) [(base,.row i.size (xs.take n++ys++xs.drop (n+ys.length)) (ex&&ae) false)]) (a.put dst v') w':=by
 obtain⟨a0,m',c',an,hm,ar⟩:=h.objs id _ hl;rw[hg] at an;cases an;rcases ar with ⟨a1,ah⟩ | ⟨g,q0,cur,e',rfl,ah,hw,au,av,ak,al,ai,ao,aw⟩
 ·omega
 ·obtain⟨os,aj,ap⟩:=XB aw;have a2:=aj.length_flatten;have aq:=hc.length_flatten;have aa:n+ys.length≤c:=o_
  obtain⟨ak,ax⟩:=ak;have af:q0+n*i.size+cs.flatten.length≤cur.size:=by rw[aq,ak,KS,← KR];exact L9 (KM _ aa) _
  have hr:=Zc1 (ty:=ty) ht hi hs hw aa af;refine⟨_,_,hr,?_⟩;simp only[Ka,Km] at ai;have ab:(w.setRow g (cur.toList.take (q0+n*i.size)++cs.flatten++cur.toList.drop (q0+n*i.size+cs.flatten.length)).toArray).heap[g]?=some (.cells (cur.toList.take (q0+n*i.size)++cs.flatten++cur.toList.drop (q0+n*i.size+cs.flatten.length)).toArray e' (0,0)):=
   setRow_heap w g cur _ e' _ hw
  refine h.move hb hl (by rw[hg];simp[Zz,KE ah]) ai ao (r:=.row (some ⟨g,q0,none⟩) m c i.size) (by simp[Zz,KE ah]) ?_ ?_ hd
  ·refine⟨_,m,c,ZJ _ _ _,by simp only[Kr,LB,LV];omega,.inr ⟨g,q0,_,e',rfl,ah,ab,au,av,⟨?_,fun he=>ax (by simp at he;exact he.1)⟩,al,by simpa using ai,ao,?_⟩⟩
   ·simp only[L5,Kr,LB,LV,K5];omega
   ·have ay:¬inS I A (ex&&ae) g:=fun hi=>ai (Zim g hi);have ag : Z0 w (inS I A (ex&&ae)) i.size xs os:=V5 Zin (show Z0 w (inS I A ex) i.size xs os from aj);have az:Z0 w (inS I A (ex&&ae)) i.size (xs.take n++ys++xs.drop (n+ys.length)) (os.take n++cs++os.drop (n+ys.length)):=
     Z0.append (Z0.append (Zy.take n ag) (V5 (fun b hb=>by rw[Bool.and_comm];exact Zin b hb) hc)) (Zy.drop (n+ys.length) ag)
    refine X9 (az.mono (UW ay)) ?_;have hA:=Z0.length_flatten (show Z0 w (inS I A ex) i.size (xs.take n) (os.take n) from Zy.take n aj);have hB:=Z0.length_flatten (show Z0 w (inS I A ex) i.size (xs.take (n+ys.length)) (os.take (n+ys.length)) from Zy.take (n+ys.length) aj);rw[LB,Nat.min_eq_left o_] at hA hB;have eA:os.flatten=(os.take n).flatten++(os.drop n).flatten:=by rw[← Lv,LK]
    have eB:os.flatten=(os.take (n+ys.length)).flatten++(os.drop (n+ys.length)).flatten:=by rw[← Lv,LK]
    have h1:Qv w g q0 (os.take n).flatten:=by
     have:=ap;rw[eA] at this;intro j u hu;exact this j u (by rw[KI (Kc.1 hu).1];exact hu)
    have h2:Qv w g (q0+n*i.size+cs.flatten.length) (os.drop (n+ys.length)).flatten:=by
     have:=ap;rw[eB] at this;intro j u hu;have:=this ((n+ys.length)*i.size+j) u (by rw[KF o_,← hu];congr 1;omega);rw[← this];congr 2
     rw[aq,KR];omega
    rw[Lv,Lv];intro j u hu;have am:=Zmw hw h1 (by rw[hA]) af;rcases K7 j ((os.take n).flatten++cs.flatten).length with hj | hj
    ·rw[KI hj] at hu;exact am j u hu
    ·rw[KF hj] at hu;have h3:=h2 _ u hu;rw[cell_of_row w g _ cur e' _ hw] at h3;rw[Kr,hA] at hj h3;rw[cell_of_row _ g _ _ _ _ ab];simp only[Kag];have hl:(cur.toList.take (q0+n*i.size)).length=q0+n*i.size:=by simp;omega
     rw[KF (by rw[Kr,hl];omega),Lo,Kr,hl,← h3,← LJ];congr 1;omega
  ·exact⟨_,_,_,_,_,ZJ _ _ _,o_,o_,rfl,fun _=>rfl,.inl (by simp[Addr.add])⟩
theorem Zs1 (h:Sim nt F A I Γ U sl hp a w) {o:Oper} {t u e:TypeId} {s x:Operand} {s' x' : Opd} {str flat:Bool}
  (ho:o.op=.call { callee:=.builtin .append,args := #[s,x],argTypes := #[t,u] }) (he:X4 P t=some e) (aq:ZnF P e u=some str) (aw:WC P e=true) (hs:ZW s=some s') (hx:ZW x=some x')
  {base:Nat} (hb:Xa U base) (hd:QP nt o.dst=true) {ce:Ze} (hv:Zgr (UO hp (P.cellsOf e) (P.bytesOf e) str flat base (evO sl s') (evO sl x'))=some ce):Zdz P nt F A I Γ U sl hp a w o base ce:=by
 obtain⟨i,z,hi,hz,ap,ae,ag,ah⟩:=YX aw;rw[ag,ah] at hv;unfold Zgr at hv;obtain⟨ef,h1,hv⟩:=Za hv;cases hv;unfold UO at h1;obtain⟨⟨ys,ax⟩,hq,h1⟩:=Za h1;simp only[] at h1;split at h1
 ·rename_i af;obtain⟨cs,ai,ak⟩:=src_ok (P:=P) h.hpOK aq (h.slOK.ev hx) hq af.1 af.2;dsimp only at ai ak;have ht:=QV he;have al:∀ {v' : Value} {w' : World},(Builtin.append_ #[t,u] o.type #[a.eval s,a.eval x]).run P w=.ok v' w' →
    Vi nt F A I Γ w (UE U base) (Ze.on { eff:=ef,gone:=[] } o.dst sl hp).1 (Ze.on { eff:=ef,gone:=[] } o.dst sl hp).2 (a.put o.dst v') w'→Zdz P nt F A I Γ U sl hp a w o base { eff:=ef,gone:=[] }:=by
   intro v' w' hr hp';refine⟨v',w',.inl ?_,hp'⟩;simp only[execOp,ho,resolve,invoke,builtin,Sem.run_bind,Sem.run_pure,Result.andThen_ok,List.map_toArray,Kk,Kt,hr]
  have aa:=h.slOK.ev hs;unfold ZiU at h1;split at h1
  ·rename_i am;rw[am] at aa;obtain⟨ad,aa⟩:=aa;split at h1
   ·rename_i hr;cases h1;by_cases hy:ys.length=0
    ·have ay:=Ks hy;subst ay;obtain⟨v',w',h2,h3⟩:=ZuB (ty:=o.type) (ad:=ad) (ex:=ax) h hb ht hi hd ai;exact al (by rw[aa];exact h2) h3
    ·obtain⟨v',w',h2,h3⟩:=ZkX (ty:=o.type) (ad:=ad) (n:=0) (c:=0) (xs:=[]) (ex:=true) (os:=[]) h hb ht hi hz ap ae hd ai ak rfl Va (.inl rfl) (Kp 0) o_ (by simpa using hr.1) (by simpa using hr.2);simp only[Lm,Kaf] at h3;exact al (by rw[aa];exact h2) h3
   ·cases h1
  ·rename_i id am;rw[am] at aa;obtain⟨ad,n,c,sz,hg,aa⟩:=aa;split at h1
   ·cases h1
   ·unfold ZpQ at h1;split at h1
    ·rename_i ar xs ex hl;split at h1
     ·rename_i hr;obtain⟨rfl,aj,an⟩:=hr;cases h1;obtain⟨au,n',c',ab,hn,_⟩:=h.objs id _ hl;rw[hg] at ab;cases ab;obtain⟨v',w',h2,h3⟩:=ZyR (ty:=o.type) h hb ht hi hz ap ae hd hl hg (Kp n) ai ak (by rw[hn];exact aj) (by rw[hn];exact an);refine al (by rw[aa];exact h2) ?_;rw[Kw o_] at h3;exact h3
     ·cases h1
    ·cases h1
  ·rename_i id off n am;rw[am] at aa;obtain⟨a0,m,c,sz,av,hg,az,a1,aa,a2,ha1⟩:=aa;split at h1
   ·split at h1
    ·cases h1
    ·unfold ZkD at h1;split at h1
     ·rename_i ar xs ex hl;split at h1
      ·rename_i hr;obtain⟨rfl,aj,an⟩:=hr;cases h1;obtain⟨au,n',c',ab,hn,_⟩:=h.objs id _ hl;rw[hg] at ab;cases ab;obtain⟨v',w',h2,h3⟩:=ZBr (ty:=o.type) (n:=n) h hb ht hi hz ap ae hd hl hg az a1 ha1 ai ak aj an;exact al (by rw[aa];exact h2) h3
      ·cases h1
     ·cases h1
   ·rename_i ao;simp only[Decidable.not_not] at ao;subst ao;have:=a2 rfl;subst this;split at h1
    ·unfold ZkC at h1;split at h1
     ·rename_i ar xs ex hl;split at h1
      ·rename_i hr;obtain⟨rfl,a3,aj⟩:=hr;cases h1;obtain⟨au,n',c',ab,hn,_⟩:=h.objs id _ hl;rw[hg] at ab;cases ab;obtain⟨v',w',h2,h3⟩:=ZBs (ty:=o.type) (n:=n) h hb ht hi hd hl hg ai ak a3 aj;exact al (by rw[aa];exact h2) h3
      ·cases h1
     ·cases h1
    ·unfold ZkB at h1;split at h1
     ·rename_i ar xs ex hl;split at h1
      ·rename_i hr;obtain⟨rfl,aj,an⟩:=hr;cases h1;obtain⟨au,n',c',ab,hn,_⟩:=h.objs id _ hl;rw[hg] at ab;cases ab;obtain⟨v',w',h2,h3⟩:=ZyR (ty:=o.type) (n:=n) h hb ht hi hz ap ae hd hl hg o_ ai ak aj an;exact al (by rw[aa];exact h2) h3
      ·cases h1
     ·cases h1
  ·cases h1
 ·cases h1
end
end Go.Abs
