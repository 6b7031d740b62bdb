/- Own text. -/
import Derived.Test.YtdhgppkldoopaaaGreatAbsStepT
set_option linter.unusedVariables false
set_option linter.unusedSimpArgs false
namespace Go.Abs
open Go
section
variable {P:Program} {nt:Nat} {U:Nat→Prop} {F A I:Nat→Prop} {Γ:Gh} {sl:Sl} {hp:Hp} {a:Act} {w:World}
theorem QZ.out {U:Nat→Prop} {base k:Nat} (h:QZ U base) (hk:U k):k<base∨base+64≤k:=by
 rcases KN k base with h1 | h1
 ·exact .inl h1
 ·rcases KN k (base+64) with h2 | h2
  ·exact absurd hk (h k h1 h2)
  ·exact .inr h2
theorem ZuJ {U:Nat→Prop} {base k:Nat} (h:¬JC U base k):(k<base∨base+64≤k)∧¬U k:=by
 refine⟨?_,fun hu=>h (.inl hu)⟩;rcases KN k base with h1 | h1
 ·exact .inl h1
 ·rcases KN k (base+64) with h2 | h2
  ·exact absurd (.inr ⟨h1,h2⟩) h
  ·exact .inr h2
theorem Za9 {g:Nat} {cur:Array Value} {S:Nat→Prop} (h:¬S g):ZS S S w (w.setRow g cur):=
 ⟨fun _ h=>h,fun b hb=>setRow_other w g b cur fun e=>h (e ▸ hb)⟩
theorem post_eq {U' : Nat→Prop} {sl' : Sl} {hp' aa : Hp} {a' : Act} {w' : World} (h:WK nt F A I Γ w U' sl' hp' a' w') (e:hp'=aa):WK nt F A I Γ w U' sl' aa a' w':=e ▸ h
theorem ZjE:∀ {xs:List AV} {ds:List D},Zuj xs=some ds→xs=ds.map AV.d∧∀ d∈ds,d.plain=true
 | [],ds,h=>by simp only[Zuj] at h;cases h;exact⟨rfl,by simp⟩
 | x :: xs,ds,h=>by
  simp only[Zuj] at h;obtain⟨d,h1,h⟩:=Za h;obtain⟨aa,h2,h⟩:=Za h;cases h;obtain⟨h3,h4⟩:=ZjE h2;unfold ZsJ at h1;split at h1
  ·split at h1
   ·cases h1;rename_i hp';refine⟨by rw[h3];rfl,fun d' hd=>?_⟩;rcases Kf.1 hd with rfl | hd
    ·exact hp'
    ·exact h4 d' hd
   ·cases h1
  ·cases h1
theorem Zla:∀ ds:List D,Xw (ds.map AV.d)=true
 | []=>rfl
 | d :: ds=>by simp only[Kp,Xw,Zla ds,L4];rfl
theorem ZBD {xs:List AV} {ds:List D} (h:Zuj xs=some ds):Xw xs=true:=by
 rw[(ZjE h).1];exact Zla ds
theorem datL_rep {w' : World} {S:Nat→Prop} {xs:List AV} {ds:List D} {vs:List Value} (h:Zuj xs=some ds) (hr:Zy (Xx Γ w I) xs vs):QB w' S ds vs:=by
 obtain⟨h1,h2⟩:=ZjE h;subst h1;clear h
 induction ds generalizing vs with
 | nil=>cases vs with
  | nil=>simp[QB]
  | cons _ _=>exact hr.elim
 | cons d ds ih=>cases vs with
  | nil=>exact hr.elim
  | cons v vs=>
   refine⟨v,vs,rfl,hr.1.1,ZdO (h2 d (by simp)) hr.1.2,ih (fun d' hd=>h2 d' (Kr _ hd)) hr.2⟩
theorem Zg7:∀ {xs:List AV} {q:List D×Bool×List Nat},VE hp xs=some q→Xw xs=true
 | [],q,h=>rfl
 | x :: xs,q,h=>by
  simp only[VE] at h;obtain⟨q1,h1,h⟩:=Za h;obtain⟨q2,h2,h⟩:=Za h;simp only[Xw,Zg7 h2,L4];cases x<;>first | rfl | cases h1
theorem ZrQ:∀ {xs:List AV} {q:List D×Bool×List Nat},VE hp xs=some q→q.1.length=xs.length
 | [],q,h=>by simp only[VE] at h;cases h;rfl
 | x :: xs,q,h=>by
  simp only[VE] at h;obtain⟨q1,h1,h⟩:=Za h;obtain⟨q2,h2,h⟩:=Za h;split at h
  ·cases h;simp[ZrQ h2]
  ·cases h
theorem ZrR:∀ {xs:List AV} {vs:List Value} {q:List D×Bool×List Nat},VE hp xs=some q→Zy (Xx Γ w I) xs vs→Zy (YB Γ w I) xs vs
 | [],[],q,h,hr=>trivial
 | [],_ :: _,q,h,hr=>hr.elim
 | _ :: _,[],q,h,hr=>hr.elim
 | x :: xs,v :: vs,q,h,hr=>by
  simp only[VE] at h;obtain⟨q1,h1,h⟩:=Za h;obtain⟨q2,h2,h⟩:=Za h;refine⟨?_,ZrR h2 hr.2⟩;cases x<;>first | exact hr.1 | cases h1
theorem Zzf (h:Sim nt F A I Γ U sl hp a w) {o:Oper} {t:TypeId} {x y:Operand} {x' y' : Opd} (ho:o.op=.store t x y) (hi:(P.info? t).isSome=true) (hx:ZW x=some x') (hy:ZW y=some y') {slc:List (Option Nat)}
  {base:Nat} (hb:QZ U base) (hd:QM nt o.dst=true) {ce:Ze} (bs:QP base (base+64) ce.eff.adds=true)
  (hv:ZfD (ZaH hp slc (P.cellsOf t) base (evO sl y').cells (evO sl x'))=some ce):Zdh P nt F A I Γ U sl hp a w o base ce:=by
 obtain⟨i,hi⟩:=K0.1 hi;unfold ZfD at hv;obtain⟨ef,h1,hv⟩:=Za hv;cases hv;have a5:=h.slOK.ev hx;have ba:=h.slOK.ev hy;have ai:∀ (b off:Nat) (cur:Array Value) (e:TypeId),a.eval x=.pointer (some ⟨b,off,none⟩)→w.heap[b]?=some (.cells cur e (0,0))→(a.eval y).cells.size=P.cellsOf t→off+(a.eval y).cells.size≤cur.size →
   (∀ u∈(a.eval y).cells.toList,u.oneCell'=true)→ZpI P o a w undef (w.setRow b (Zv cur.toList off (a.eval y).cells.toList).toArray):=by
  intro b off cur e e1 e2 e3 e4 e5;refine .inr ⟨?_,rfl⟩;simp only[execOp,ho,e1,Instr.storeAt,Instr.sureAddr,Sem.run_bind,Sem.run_pure,Result.andThen_ok,Zs7 hi e3 e2 e4 e5]
 unfold ZaH at h1;split at h1
 ·
  rename_i id off aq;rw[aq] at a5;obtain⟨⟨b,e⟩,ag,au⟩:=a5;unfold ZgL at h1;split at h1
  ·rename_i cs hl;obtain⟨b',cur,e',al,hw,hI,hF,hc,_⟩:=h.objs id _ hl;rw[ag] at al;cases al;split at h1
   ·rename_i ae;obtain⟨c1,c2,c3,c4⟩:=ae;have a6:=Rep.cells (Zg9 c3) ba;have ah:(a.eval y).cells.size=P.cellsOf t:=by rw[← c1,a6.length];simp
    have b6:cs.length=cur.size:=by rw[hc.length];simp
    have hg:=ai b off cur e au hw ah (by omega) (Ze5 c3 a6);have a7:ZS I I w (w.setRow b (Zv cur.toList off (a.eval y).cells.toList).toArray):=Za9 hI;have aa:(w.setRow b (Zv cur.toList off (a.eval y).cells.toList).toArray).heap[b]?=some (.cells (Zv cur.toList off (a.eval y).cells.toList).toArray e (0,0)):=setRow_heap w b cur _ e _ hw;split at h1
    ·cases h1;obtain⟨Γ',g1,g2,g3,g5⟩:=Zzd (w.setRow b (Zv cur.toList off (a.eval y).cells.toList).toArray) I F A (base+64) slc (evO sl y').cells (a.eval y).cells.toList base Γ bs (fun k hk bb=>h.names k (hb k hk bb)) (a6.mono fun _ _ h=>h.mono (Qg.refl Γ) a7);refine⟨_,_,hg,?_⟩;rw[QY];refine h.turn hb hl (by rw[ag];rfl) hI hF g1 (fun k hk=>g2 k (hb.out hk)) g3 (fun k hk=>by rw[g2 k (ZuJ hk).1];exact h.names k (ZuJ hk).2) ?_ trivial hd (hbuf:=fun b hb=>(ZuG (Za8 c4 (by rw[ZhC];exact ZaB c3)) hb).elim);exact⟨b,_,e,g1 _ _ ag,aa,hI,hF,by simpa using ZjF (hc.mono fun _ _ h=>h.mono g1 a7) g5 off,Ze4 (Za8 c4 (by rw[ZhC];exact ZaB c3))⟩
    ·cases h1;refine⟨_,_,hg,?_⟩;rw[QY];refine h.turn hb hl (by rw[ag];rfl) hI hF (adds:=[]) (Qg.refl Γ) (fun _ _=>rfl) (fun k o hk=>by simp at hk) (fun k hk=>h.names k (fun hu=>hk (.inl hu))) ?_ trivial hd (hbuf:=fun b hb=>(ZuG (Za8 c4 (ZaB c3)) hb).elim);exact⟨b,_,e,ag,aa,hI,hF,by simpa using ZjF (hc.mono fun _ _ h=>h.mono (Qg.refl Γ) a7) (a6.mono fun _ _ h=>h.mono (Qg.refl Γ) a7) off,Ze4 (Za8 c4 (ZaB c3))⟩
   ·cases h1
  ·cases h1
 ·
  rename_i id sz j off aq;unfold ZbS at h1;split at h1
  ·rename_i bt xs ex hl;split at h1
   ·rename_i bc;subst bc;obtain⟨el,a8,h1⟩:=Za h1;obtain⟨q,aj,h1⟩:=Za h1;unfold Zhq at h1;split at h1
    ·rename_i ae;obtain⟨c1,c2,c3,c4,c5⟩:=ae;cases h1;have h':=h.freeze q.2.2;have a9 : lkp (Qi q.2.2 hp) id=some (.row sz xs ex false):=by
      rw[Qb,hl];simp only[KV,c5,Kc,Ko]
     have av:=h'.slOK.ev hx;have bu:=h'.slOK.ev hy;rw[aq] at av;obtain⟨b,n,c,ag,hj,au⟩:=av;obtain⟨ad,n',c',al,hn,aw⟩:=h'.objs id _ a9;rw[ag] at al;cases al;rcases aw with aw | ⟨g,cur,e,bd,ax,hw,be,bf,ay,an,az,bp,bg⟩
     ·omega
     ·cases bd;simp only[Kc,Ko] at az;have af:=Rep.cells (Zg9 (Zg7 aj)) ba;have ah:(a.eval y).cells.size=P.cellsOf t:=by
       have:=ZrQ aj;have h2:=af.length;simp at h2;omega
      have bv:q.1.length=(a.eval y).cells.toList.length:=by simp;omega
      have b7:n=xs.length:=hn;have bq:j*sz+sz≤cur.size:=by
       rw[ay,← Nat.succ_mul];exact KC _ (by omega)
      have hg:=ai b (j*sz+off) cur e au hw ah (by omega) (Ze5 (Zg7 aj) af);have bh:(Zv cur.toList (j*sz+off) (a.eval y).cells.toList).length=cur.size:=by rw[Vu];simp;simp;omega
      have aa:(w.setRow b (Zv cur.toList (j*sz+off) (a.eval y).cells.toList).toArray).heap[b]?=some (.cells (Zv cur.toList (j*sz+off) (a.eval y).cells.toList).toArray e (0,0)):=setRow_heap w b cur _ e _ hw;refine⟨_,_,hg,WK.of_freeze h q.2.2 ?_⟩;rw[QY];have a0:∀ e' : Bool,¬(if e' then fun b=>Xg Γ w hp I q.2.2 b∧A b else Xg Γ w hp I q.2.2) b:=fun e'=>by cases e' <;> simp<;>(try exact az);exact fun hI=>absurd hI az
      have bi:∀ e' : Bool,(e'=true→(ex&&q.2.1)=true∨True)→∀ x,(if ex then fun b=>Xg Γ w hp I q.2.2 b∧A b else Xg Γ w hp I q.2.2) x→(if (ex&&q.2.1) then fun b=>Xg Γ w hp I q.2.2 b∧A b else Xg Γ w hp I q.2.2) x:=fun _ _ x hx=>by
       cases ex<;>cases a':q.2.1<;>simp[a'] at hx ⊢
       ·exact hx
       ·exact hx
       ·exact hx.1
       ·exact hx
      have a1:∀ x,(if q.2.1 then fun b=>Xg Γ w hp I q.2.2 b∧A b else Xg Γ w hp I q.2.2) x→(if (ex&&q.2.1) then fun b=>Xg Γ w hp I q.2.2 b∧A b else Xg Γ w hp I q.2.2) x:=fun x hx=>by
       cases ex<;>cases a':q.2.1<;>simp[a'] at hx ⊢
       ·exact hx
       ·exact hx.1
       ·exact hx
       ·exact hx
      have ak:ZS (if ex then fun b=>Xg Γ w hp I q.2.2 b∧A b else Xg Γ w hp I q.2.2) (if (ex&&q.2.1) then fun b=>Xg Γ w hp I q.2.2 b∧A b else Xg Γ w hp I q.2.2) w (w.setRow b (Zv cur.toList (j*sz+off) (a.eval y).cells.toList).toArray):=
       ⟨bi true (fun _=>.inr trivial),fun x hx=>setRow_other w b x _ fun e'=>a0 ex (e' ▸ hx)⟩
      have a2:ZS (if q.2.1 then fun b=>Xg Γ w hp I q.2.2 b∧A b else Xg Γ w hp I q.2.2) (if (ex&&q.2.1) then fun b=>Xg Γ w hp I q.2.2 b∧A b else Xg Γ w hp I q.2.2) w (w.setRow b (Zv cur.toList (j*sz+off) (a.eval y).cells.toList).toArray):=
       ⟨a1,fun x hx=>setRow_other w b x _ fun e'=>a0 q.2.1 (e' ▸ hx)⟩
      have ao:QB w (if q.2.1 then fun b=>Xg Γ w hp I q.2.2 b∧A b else Xg Γ w hp I q.2.2) q.1 (a.eval y).cells.toList:=
       (Zp4 h.hpOK h.own (ZrR aj af) aj).froze fun S S' hs hq=>hq.mono ⟨hs,fun _ _=>rfl⟩
      refine h'.turn hb a9 (by rw[ag];simp[ZA,Ky ax]) az bp (adds:=[]) (Qg.refl Γ) (fun _ _=>rfl) (fun k o hk=>by simp at hk) (fun k hk=>h.names k (fun hu=>hk (.inl hu))) ?_ trivial hd;refine⟨_,n,c,ag,by simp[hn],.inr ⟨b,_,e,rfl,ax,aa,be,bf,by simp[bh,ay],an,by simpa using az,bp,?_⟩⟩;rw[XK] at bg ⊢;have am:∀ p,(w.setRow b (Zv cur.toList (j*sz+off) (a.eval y).cells.toList).toArray).cell? ⟨b,p,none⟩=(Zv cur.toList (j*sz+off) (a.eval y).cells.toList)[p]?:=fun p=>by
       rw[cell_of_row _ _ _ _ _ _ aa];simp
      have ab:∀ p,w.cell? ⟨b,p,none⟩=cur.toList[p]?:=fun p=>by rw[cell_of_row _ _ _ _ _ _ hw];simp
      intro k z hz;by_cases bj:k=j
      ·subst bj;have bw : k<xs.length:=(Ka.1 a8).1;rw[KM bw] at hz;cases hz;obtain⟨vs,v1,v2,v3⟩:=bg k el a8;refine⟨Zv vs off (a.eval y).cells.toList,by rw[Vu];exact v1;omega,?_,?_⟩
       ·intro p u hu;rw[Ql _ _ _ _ (by omega)] at hu;rw[am,Ql _ _ _ _ (by simp;omega)];split at hu
        ·rename_i bx;rw[Kl (by omega)];have:0+k*sz+p-(k*sz+off)=p-off:=by omega
         rw[this];exact hu
        ·rename_i bx;rw[Kj (by omega),← ab];exact v2 p u hu
       ·have ar:=ao.mono a2;generalize a':q.1=ds at ar c3 bv;cases el with
        | agg cs=>
         simp only[XM,ZQ] at v3 ⊢;exact QK.2 (ZjF (QK.1 (v3.mono ak)) (QK.1 ar) off)
        | sl zs=>cases c1
        | _=>
         simp only[D.cells,List.length_singleton] at c2;have bz:vs.length=1:=by omega
         obtain⟨v0,rfl⟩:=List.length_eq_one_iff.1 bz;have b0:=v3.mono ak;cases ds with
         | nil=>
          simp only[QB] at ar;simp only[XM,List.headD_nil];rw[ar];simp only[Zv,Ln,La,L2,Li];exact b0
         | cons d ds=>
          simp only[Ks] at c3;have bk:ds=[]:=Km (by omega);subst bk;have bl:off=0:=by omega
          subst bl;simp only[QB] at ar;obtain⟨v,r,e1,e2,e3,rfl⟩:=ar;simp only[XM,List.headD_cons];have b1:Zv [v0] 0 (a.eval y).cells.toList=(a.eval y).cells.toList:=by rw[e1];simp[Zv]
          rw[b1];have bm:∀ l,l=[v]→ZQ (w.setRow b (Zv cur.toList (k*sz+0) (a.eval y).cells.toList).toArray) (if (ex&&q.2.1) then fun b=>Xg Γ w hp I q.2.2 b∧A b else Xg Γ w hp I q.2.2) d l:=fun l hl=>hl ▸ e3;exact bm _ e1
      ·rw[KW (Ne.symm bj)] at hz;obtain⟨vs,v1,v2,v3⟩:=bg k z hz;refine⟨vs,v1,?_,v3.mono ak⟩;intro p u hu;have b8:p<sz:=by have:=(Ka.1 hu).1;omega
       rw[am,Ql _ _ _ _ (by simp;omega),Kj,← ab]
       ·exact v2 p u hu
       ·intro hh;simp at hh;rcases LI bj with bb | bb
        ·have:(k+1)*sz≤j*sz:=KC _ (by omega);rw[KG] at this;omega
        ·have:(j+1)*sz≤k*sz:=KC _ (by omega);rw[KG] at this;omega
    ·cases h1
   ·cases h1
  ·rename_i bt ns xs lk hl;split at h1
   ·rename_i bc;subst bc;obtain⟨el,a8,h1⟩:=Za h1;obtain⟨q,aj,h1⟩:=Za h1;unfold Zhs at h1;split at h1
    ·rename_i ae;obtain⟨c1,c2,c3,c4,c5⟩:=ae;cases h1;rw[aq] at a5;obtain⟨b,n,c,ag,hj,au⟩:=a5;obtain⟨ad,n',c',al,⟨hn,aw⟩,b2⟩:=h.objs id _ hl;rw[ag] at al;cases al;rcases aw with aw | ⟨g,cur,e,B,bd,ax,hw,be,bf,ay,an,hE,bn,bo⟩
     ·omega
     ·cases bd;cases el with
      | int _ _=>cases c1
      | bool _=>cases c1
      | str _=>cases c1
      | sl _=>cases c1
      | agg cs=>
       have af:=Rep.cells (Zg9 (Zha aj)) ba;have ah:(a.eval y).cells.size=P.cellsOf t:=by
        have:=ZrW aj;have h2:=af.length;simp at h2;omega
       have b3:(a.eval y).cells.toList.length=P.cellsOf t:=by simpa using ah
       have bq:j*sz+sz≤cur.size:=by
        rw[ay,← Nat.succ_mul];exact KC _ (by omega)
       have hg:=ai b (j*sz+off) cur e au hw ah (by omega) (Ze5 (Zha aj) af);have ap:ZA (Γ id)=some b:=by rw[ag];simp[ZA,Ky ax]
       obtain⟨Bq,q1,q2,q3,q4⟩:=Zp9 h (ZrX aj af) aj;have a3:∀ x∈b :: B,x∉Bq:=fun x hx b4=>by
        obtain⟨k,hk,o',a9,al⟩:=q4 x b4;have hB:Blk Γ w id (.tree sz ns xs lk) x:=(Kf.1 hx).elim (fun e=>.inl (e ▸ ap)) fun hx=>.inr (.inl ⟨b,B,ap,hE,hx⟩);have:=h.inj id k _ o' x hl a9 hB al;subst this;simp at c5;exact c5 hk
       have ab:=(KU.1 bn).1;obtain⟨⟨B',t1,t2⟩,t3⟩:=Zv3 rfl hw hE b2 a8 (by simpa [D.cells] using c2) (by omega:off+(a.eval y).cells.toList.length≤sz) q1 ab (a3 b (by simp)) bq;rw[b3] at t1 t3;have a4:∀ x∈b :: B',x∈b :: B∨x∈Bq:=fun x hx=>by
        rcases Kf.1 hx with rfl | hx
        ·exact .inl (by simp)
        ·have h1:=KP.2 hx;have h2:=t2 x;rcases Lv (List.count x Bq) with h3 | h3
         ·exact .inl (Kr _ (KP.1 (by omega)))
         ·exact .inr (KP.1 h3)
       have bh:(Zv cur.toList (j*sz+off) (a.eval y).cells.toList).length=cur.size:=by rw[Vu];simp;simp;omega
       have aa:(w.setRow b (Zv cur.toList (j*sz+off) (a.eval y).cells.toList).toArray).heap[b]?=some (.cells (Zv cur.toList (j*sz+off) (a.eval y).cells.toList).toArray e (0,0)):=setRow_heap w b cur _ e _ hw;refine⟨_,_,hg,?_⟩;rw[QY];refine h.turnT (dels:=q.2) (by simpa using c5) hl ap (bo b (by simp)).1 (bo b (by simp)).2 (v:=.junk) ?_ trivial hd fun x hx=>?_
       ·refine⟨_,n,c,ag,⟨by simp[hn],.inr ⟨b,_,e,B',rfl,ax,aa,be,bf,by simp[bh,ay],an,t1,?_,fun x hx=>?_⟩⟩,t3⟩
        ·rw[LN] at bn q2 ⊢;intro x;have h1:=bn x;have h2:=q2 x;have h3:=t2 x;simp only[List.count_cons] at h1 ⊢;rcases Lv (List.count x Bq) with h4 | h4
         ·omega
         ·have h5:x∉b :: B:=fun hm=>a3 x hm (KP.1 h4);have h6:=List.count_eq_zero.2 h5;simp only[List.count_cons] at h6;omega
        ·rcases a4 x hx with hm | hm
         ·exact bo x hm
         ·exact q3 x hm
       ·have aq : x∈b :: B∨x∈Bq:=by
         rcases hx with hx | ⟨g',B2,br,b5,hx⟩ | hx
         ·rw[Zbf,ap] at hx;cases hx;exact .inl (by simp)
         ·rw[ap] at br;cases br;cases ZZ.uniq t1 b5;exact a4 x (Kr _ hx)
         ·exact hx.elim
        rcases aq with hx | hx
        ·exact⟨id,by simp,_,hl,(Kf.1 hx).elim (fun e=>.inl (e ▸ ap)) fun hx=>.inr (.inl ⟨b,B,ap,hE,hx⟩)⟩
        ·obtain⟨k,hk,o',hh⟩:=q4 x hx;exact⟨k,by simp[hk],o',hh⟩
    ·cases h1
   ·cases h1
  ·cases h1
 ·cases h1
end
end Go.Abs
set_option linter.unusedVariables false
set_option linter.unusedSimpArgs false
namespace Go.Abs
open Go
section
variable {P:Program} {nt:Nat} {U:Nat→Prop} {F A I:Nat→Prop} {Γ:Gh} {sl:Sl} {hp:Hp} {a:Act} {w:World}
structure Src (P:Program) (w:World) (u:TypeId) (sz:Nat) (x:Value) (m:Nat) (news:List Value):Prop where
 type:∃ d,P.underlying u=some d∧∀ k,d≠.int k
 len:(Builtin.lenOf x).run P w=.ok m w
 cells:(Builtin.firstCells sz m x).run P w=.ok news.toArray w
 cells' : (Builtin.firstCells sz m x).run P w.drew=.ok news.toArray w.drew
 one:∀ v∈news,v.oneCell'=true
 length:news.length=m*sz
theorem Zg8 {t u ty e:TypeId} {i:TypeInfo} (ht:P.underlying t=some (.slice e)) (hi:P.info? e=some i) {x:Value} {m:Nat} {news:List Value} (hs:Src P w u i.size x m news)
  {g n c:Nat} {cur:Array Value} {e' : TypeId} (hg:w.heap[g]?=some (.cells cur e' (0,0))) (aa:n+m≤c) (ab:n*i.size+news.length≤cur.size) :
  (Builtin.append_ #[t,u] ty #[.slice (some ⟨g,0,none⟩) n c,x]).run P w=.ok (.slice (some ⟨g,0,none⟩) (n+m) c) (w.setRow g (cur.toList.take (n*i.size)++news++cur.toList.drop (n*i.size+news.length)).toArray):=by
 obtain⟨d,hd,ad⟩:=hs.type;have ae:=run_storeCells_at P g (n*i.size) e' news 0 cur w hg (by simpa using ab) hs.one;simp only[L2] at ae;have hz:(match d with | .int _=>true | _=>false)=false:=by cases d<;>first | rfl | exact absurd rfl (ad _)
 simp only[Builtin.append_,sizeOf,typeInfo];simp[run_underlying ht,run_underlying hd,hi];cases d<;>first | exact absurd rfl (ad _) | skip
 all_goals simp[hs.len,aa,hs.cells,Addr.add_lit,ae]
theorem Znf {t u ty e:TypeId} {i:TypeInfo} (ht:P.underlying t=some (.slice e)) (hi:P.info? e=some i) {x:Value} {news:List Value} (hs:Src P w u i.size x 0 news) {ad:Option Addr} {n c:Nat} (aa:n≤c) :
  (Builtin.append_ #[t,u] ty #[.slice ad n c,x]).run P w=.ok (.slice ad n c) w:=by
 obtain⟨d,hd,ab⟩:=hs.type;have hn:news=[]:=Km (by rw[hs.length];simp);have hc:=hs.cells;rw[hn] at hc;simp only[Builtin.append_,sizeOf,typeInfo];simp[run_underlying ht,run_underlying hd,hi];cases d<;>first | exact absurd rfl (ab _) | skip
 all_goals
  simp[hs.len,aa,hc];cases ad<;>simp[storeCells]
theorem Zng {t u ty e:TypeId} {i:TypeInfo} {z:Value} (ht:P.underlying t=some (.slice e)) (hi:P.info? e=some i) (hz:i.zero=some z) {x:Value} {m:Nat} {news:List Value} (hs:Src P w u i.size x m news)
  {ad:Option Addr} {n c:Nat} {aa:List Value} (ho:(Builtin.firstCells i.size n (.slice ad n c)).run P w.drew=.ok aa.toArray w.drew) (af:c<n+m) (ai:((n+m:Nat):Int)≤9223372036854775807)
  (ag:Builtin.nextslicecap (n+m) c*i.bytes≤281474976710656) :
  (Builtin.append_ #[t,u] ty #[.slice ad n c,x]).run P w=.ok (.slice (some ⟨w.heap.size,0,none⟩) (n+m) (grownCap w (n+m) c e))
   (w.drew.alloc (.cells ((aa++news).toArray++Builtin.zeroCells z.cells (grownCap w (n+m) c e-(n+m))) e)):=by
 obtain⟨d,hd,ah⟩:=hs.type;have hn:¬(n+m≤c):=by omega
 have ab : ¬(9223372036854775807<((n:Int)+(m:Int))):=by omega
 have ae : ¬(281474976710656<Builtin.nextslicecap (n+m) c*i.bytes):=by omega
 simp only[Builtin.append_,sizeOf,typeInfo,zeroValue];simp[run_underlying ht,run_underlying hd,hi,hz];cases d<;>first | exact absurd rfl (ah _) | skip
 all_goals
  simp[hs.len,hn,ab,ae,Question.forced,ho,hs.cells',newRow,grownCap];congr 2
  apply Array.ext';simp
theorem drew_cell (w:World) (a:Addr):w.drew.cell? a=w.cell? a:=rfl
theorem QD.drew {b o:Nat} {vs:List Value} (h:QD w b o vs):QD w.drew b o vs:=h
theorem YR {sz n c:Nat} {ad:Option Addr} {news:List Value} (hl:news.length=n*sz) (h:n=0∨∃ b o,ad=some ⟨b,o,none⟩∧QD w b o news) :
  (Builtin.firstCells sz n (.slice ad n c)).run P w=.ok news.toArray w:=by
 rcases h with h | ⟨b,o,rfl,h⟩
 ·subst h;have hn:news=[]:=Km (by simpa using hl);subst hn;cases ad<;>simp[Builtin.firstCells,loadCells,loadCellsFrom]
 ·exact run_firstCells_some (P:=P) w sz n ⟨b,o,none⟩ n c news hl fun j u hu=>by rw[W1];exact h j u hu
theorem Zlb {S:Nat→Prop} {b sz:Nat} {xs:List D} {o:Nat} (h:WL w S b sz xs o) (off n:Nat):WL w S b sz ((xs.drop off).take n) (o+off*sz):=by
 rw[XK] at h ⊢;intro i x hx;rw[Lm] at hx;split at hx
 ·rw[KR] at hx;obtain⟨vs,h1,h2,h3⟩:=h _ x hx;exact⟨vs,h1,by rw[KG,← Lf] at h2;exact h2,h3⟩
 ·cases hx
theorem Wj {S:Nat→Prop} {sz:Nat}:Z4 w S sz [] []:=trivial
theorem ZcB {w' : World} {S S' : Nat→Prop} {sz:Nat}:∀ {xs:List D} {cs:List (List Value)},Q5 xs→Z4 w S sz xs cs→Z4 w' S' sz xs cs
 | [],[],_,_=>trivial
 | [],_ :: _,_,h=>h.elim
 | _ :: _,[],_,h=>h.elim
 | x :: xs,c :: cs,hf,h=>⟨⟨h.1.1,Zp0 (hf x (by simp)) h.1.2⟩,ZcB (fun y hy=>hf y (by simp[hy])) h.2⟩
theorem Zp7 {S:Nat→Prop} {sz:Nat} {xs:List D} {cs:List (List Value)} (h:Z4 w S sz xs cs):∀ v∈cs.flatten,v.oneCell'=true:=by
 intro v hv;obtain⟨c,hc,hv⟩:=List.mem_flatten.1 hv;obtain⟨i,hi⟩:=Lw hc;obtain⟨d,_,hd⟩:=Zy.get' h i c hi;obtain⟨j,hj⟩:=Lw hv;obtain⟨d',aa,h1,h2⟩:=(QK.1 hd.2.cells).get' j v hj;exact ZrT (Γ:=fun _=>none) (w:=w) (I:=S) (x:=.d d') rfl ⟨h1,h2⟩
def inS (I A:Nat→Prop) (ex:Bool):Nat→Prop:=if ex then fun b=>I b∧A b else I
theorem Zs5 {ex:Bool}:∀ b,inS I A ex b→I b:=by
 intro b h;unfold inS at h;cases ex<;>simp at h
 ·exact h
 ·exact h.1
theorem ZhD {ex aa : Bool}:∀ b,inS I A ex b→inS I A (ex&&aa) b:=by
 intro b h;unfold inS at h ⊢;cases ex<;>cases aa <;> simp at h ⊢
 ·exact h
 ·exact h
 ·exact h.1
 ·exact h
theorem J6 {S S' : Nat→Prop} {sz:Nat} (h:∀ b,S b→S' b) {xs:List D} {cs:List (List Value)} (hc:Z4 w S sz xs cs):Z4 w S' sz xs cs:=hc.mono ⟨h,fun _ _=>rfl⟩
theorem ZAv {S:Nat→Prop} {b o sz:Nat} {xs:List D} (h:WL w S b sz xs o):∃ cs,Z4 w S sz xs cs∧QD w b o cs.flatten:=X5 h
theorem Zp8 {e u:TypeId} {str:Bool} (h:Zm7 P e u=some str):(str=true∧P.underlying u=some .string)∨(str=false∧P.underlying u=some (.slice e)):=by
 unfold Zm7 at h;split at h
 ·rename_i e' he;split at h
  ·rename_i aa;cases h;subst aa;exact .inr ⟨rfl,QN he⟩
  ·cases h
 ·split at h
  ·rename_i ab;cases h;exact .inl ⟨rfl,Uv ab⟩
  ·cases h
theorem WC {u e:TypeId} (hu:P.underlying u=some (.slice e)) {S:Nat→Prop} {sz n c:Nat} {ad:Option Addr} {ys:List D} (hn:n=ys.length) {cs:List (List Value)} (hc:Z4 w S sz ys cs)
  (h:n=0∨∃ b o,ad=some ⟨b,o,none⟩∧QD w b o cs.flatten):Src P w u sz (.slice ad n c) ys.length cs.flatten:=by
 subst hn;have hl:=hc.length_flatten;exact⟨⟨_,hu,fun k=>by simp⟩,by simp[Builtin.lenOf],YR hl h,YR hl (h.imp id fun ⟨b,o,h1,h2⟩=>⟨b,o,h1,h2.drew⟩),Zp7 hc,hl⟩
theorem Zlc {S:Nat→Prop}:∀ (s:List UInt8),Z4 w S 1 (s.map fun b=>.int .u8 b.toNat) (s.map fun b=>[.int .u8 b.toNat])
 | []=>trivial
 | b :: s=>⟨⟨rfl,by simp[ZQ]⟩,Zlc s⟩
theorem src_ok (ho:JW Γ w I F A hp) {e u:TypeId} {str flat:Bool} (al:Zm7 P e u=some str) {sz:Nat} {x:AV} {xv:Value} (hx:Rep Γ w I x xv) {q:List D×Bool}
  (hq:(if str then Zpr x else ZgN hp flat x)=some q) (ae:uni sz q.1) (aa:flat=true→Q5 q.1) :
  ∃ cs,Src P w u sz xv q.1.length cs.flatten∧Z4 w (inS I A q.2) sz q.1 cs:=by
 rcases Zp8 al with ⟨rfl,hu⟩ | ⟨rfl,hu⟩
 ·simp only[Kn] at hq;unfold Zpr at hq;split at hq
  ·cases hq;obtain⟨t,rfl,rfl⟩:=ZeG hx;have af:t.data.toList=[]∨sz=1:=by
    cases ht:t.data.toList with
    | nil=>exact .inl rfl
    | cons b l=>right;have:=ae (.int .u8 b.toNat) (by simp[ht]);simpa [D.cells] using this.symm
   refine⟨t.data.toList.map fun b=>[.int .u8 b.toNat],?_,?_⟩
   ·have au:(t.data.toList.map fun b=>[Value.int .u8 b.toNat]).flatten=t.data.toList.map fun b=>Value.int .u8 b.toNat:=by
     induction t.data.toList with
     | nil=>rfl
     | cons b l ih=>simp[ih]
    have ab:t.data.toList.length=t.size:=rfl;have ao:∀ w:World,(Builtin.firstCells sz t.size (.string t)).run P w=.ok (t.data.map fun b=>Value.int .u8 b.toNat) w:=by
     intro w;have hx:t.extract 0 t.size=t:=by apply ByteArray.ext;rw[ByteArray.data_extract];exact Array.extract_size
     show (pure ((t.extract 0 t.size).data.map fun b=>Value.int .u8 b.toNat):Sem (Array Value)).run P w=_;rw[hx];rfl
    have ag:(t.data.toList.map fun b=>Value.int .u8 b.toNat).toArray=t.data.map fun b=>Value.int .u8 b.toNat:=by
     apply Array.ext';simp
    rw[au];simp only[KQ,ab];refine⟨⟨_,hu,fun k=>by simp⟩,by simp[Builtin.lenOf],by rw[ao,ag],by rw[ao,ag],?_,?_⟩
    ·intro v hv;obtain⟨b,_,rfl⟩:=Lk.1 hv;rfl
    ·rcases af with h0 | h1
     ·have:t.size=0:=by rw[← ab,h0];rfl
      simp[h0,this]
     ·subst h1;simp[ab]
   ·rcases af with h0 | h1
    ·rw[h0];exact trivial
    ·subst h1;exact Zlc _
  ·cases hq
 ·simp only[Kc,Ko] at hq;unfold ZgN at hq;split at hq
  ·cases hq;obtain⟨ad,rfl⟩:=hx;exact⟨[],WC hu rfl (Wj (S:=I)) (.inl rfl),trivial⟩
  ·rename_i ys;cases hq;have h1:=Xf.1 hx;simp only[Q4,ZQ] at h1;obtain⟨ad,c,hv,hc,h1⟩:=h1;simp at hv;subst hv;have hS:∀ {cs},Z4 w I sz ys cs→Z4 w (inS I A flat) sz ys cs:=by
    intro cs ap;cases flat
    ·exact ap
    ·exact ZcB (aa rfl) ap
   rcases h1 with rfl | ⟨b,o,am,rfl,hI,h0,hr⟩
   ·exact⟨[],WC hu rfl (Wj (S:=I)) (.inl rfl),trivial⟩
   ·cases ys with
    | nil=>exact⟨[],WC hu rfl (Wj (S:=I)) (.inl rfl),trivial⟩
    | cons y ys=>
     obtain⟨cs,h2,h3⟩:=X5 hr;have af:am=sz:=by
      obtain⟨vs,h4,h5,h6⟩:=XK.1 hr 0 y (by simp);rw[← h4,h6.length];exact ae y (by simp)
     subst af;exact⟨cs,WC hu rfl h2 (.inr ⟨b,o,rfl,h3⟩),hS h2⟩
  ·rename_i id;unfold ZsK at hq;split at hq
   ·rename_i ai ys ex fz hl;cases hq;obtain⟨ad,n,c,h1,h2,h3⟩:=ho id _ hl;obtain⟨a3,n',c',am,h4,rfl⟩:=hx;rw[h1] at h4;cases h4;rcases h3 with h3 | ⟨g,cur,e',rfl,hc,hw,h4,h5,h6,h7,h8,aw,h9⟩
    ·have hy:ys=[]:=Km (by omega);subst hy;exact⟨[],WC hu h2 (Wj (S:=I)) (.inl (by simpa using h2)),trivial⟩
    ·cases ys with
     | nil=>exact⟨[],WC hu h2 (Wj (S:=I)) (.inl (by simpa using h2)),trivial⟩
     | cons y ys=>
      obtain⟨cs,ah,aq⟩:=X5 h9;have af:ai=sz:=by
       obtain⟨vs,ar,ax,aj⟩:=XK.1 h9 0 y (by simp);rw[← ar,aj.length];exact ae y (by simp)
      subst af;refine⟨cs,WC hu h2 ah (.inr ⟨g,0,rfl,aq⟩),?_⟩;cases ex
      ·cases flat
       ·exact ah
       ·exact ZcB (aa rfl) ah
      ·exact ah
   ·cases hq
  ·rename_i id off n;unfold ZnU at hq;split at hq
   ·rename_i ai ys ex fz hl;cases hq;obtain⟨ad,m,c,h1,h2,h3⟩:=ho id _ hl;obtain⟨a0,m',c',am,av,h4,h5,h6,rfl,h7,h8⟩:=hx;rw[h1] at h4;cases h4;have an:n=((ys.drop off).take n).length:=by simp;omega
    by_cases ay:n=0
    ·subst ay;simp only[Kaa];exact⟨[],WC hu rfl (Wj (S:=I)) (.inl rfl),trivial⟩
    ·rcases h3 with h3 | ⟨g,cur,e',rfl,hc,hw,h9,ah,aq,ar,ax,aw,aj⟩
     ·omega
     ·obtain⟨cs,ak,az⟩:=X5 (Zlb aj off n);have af:ai=sz:=by
       obtain⟨y,hy⟩:∃ y,((ys.drop off).take n)[0]?=some y:=⟨_,Kt (by omega)⟩
       obtain⟨vs,a1,a4,a2⟩:=XK.1 (Zlb aj off n) 0 y hy;rw[← a1,a2.length];exact ae y (Kb hy)
      subst af;rcases h8 with h8 | h8
      ·subst h8;refine⟨cs,WC hu an ak (.inr ⟨g,off*ai,by simp[W1],by simpa using az⟩),?_⟩;cases ex
       ·cases flat
        ·exact ak
        ·exact ZcB (aa rfl) ak
       ·exact ak
      ·omega
   ·cases hq
  ·cases hq
end
end Go.Abs
