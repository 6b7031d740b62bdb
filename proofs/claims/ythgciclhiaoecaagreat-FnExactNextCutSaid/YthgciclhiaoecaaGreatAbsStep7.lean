/- Own text. -/
import Derived.Test.YthgciclhiaoecaaGreatAbsStepT
set_option linter.unusedVariables false
set_option linter.unusedSimpArgs false
namespace Go.Abs
open Go
section
variable {P:Program} {nt:Nat} {U:Nat→Prop} {F A I:Nat→Prop} {Γ:Gh} {sl:Sl} {hp:Hp} {a:Act} {w:World}
theorem Xd.out {U:Nat→Prop} {base k:Nat} (h:Xd U base) (hk:U k):k<base∨base+64≤k:=by
 rcases KY k base with h1 | h1
 ·exact .inl h1
 ·rcases KY k (base+64) with h2 | h2
  ·exact absurd hk (h k h1 h2)
  ·exact .inr h2
theorem ZwS {U:Nat→Prop} {base k:Nat} (h:¬Zab U base k):(k<base∨base+64≤k)∧¬U k:=by
 refine⟨?_,fun hu=>h (.inl hu)⟩;rcases KY k base with h1 | h1
 ·exact .inl h1
 ·rcases KY k (base+64) with h2 | h2
  ·exact absurd (.inr ⟨h1,h2⟩) h
  ·exact .inr h2
theorem ZbS {g:Nat} {cur:Array Value} {S:Nat→Prop} (h:¬S g):ZT S S w (w.setRow g cur):=
 ⟨fun _ h=>h,fun b hb=>setRow_other w g b cur fun e=>h (e ▸ hb)⟩
theorem post_eq {U' : Nat→Prop} {sl' : Sl} {hp' aa : Hp} {a' : Act} {w' : World} (h:W5 nt F A I Γ w U' sl' hp' a' w') (e:hp'=aa):W5 nt F A I Γ w U' sl' aa a' w':=e ▸ h
theorem Zk0:∀ {xs:List AV} {ds:List D},Zwu xs=some ds→xs=ds.map AV.d∧∀ d∈ds,d.plain=true
 | [],ds,h=>by simp only[Zwu] at h;cases h;exact⟨rfl,by simp⟩
 | x :: xs,ds,h=>by
  simp only[Zwu] at h;obtain⟨d,h1,h⟩:=Za h;obtain⟨aa,h2,h⟩:=Za h;cases h;obtain⟨h3,h4⟩:=Zk0 h2;unfold ZuP at h1;split at h1
  ·split at h1
   ·cases h1;rename_i hp';refine⟨by rw[h3];rfl,fun d' hd=>?_⟩;rcases Kf.1 hd with rfl | hd
    ·exact hp'
    ·exact h4 d' hd
   ·cases h1
  ·cases h1
theorem ZmB:∀ ds:List D,XH (ds.map AV.d)=true
 | []=>rfl
 | d :: ds=>by simp only[Ko,XH,ZmB ds,Kag];rfl
theorem ZD4 {xs:List AV} {ds:List D} (h:Zwu xs=some ds):XH xs=true:=by
 rw[(Zk0 h).1];exact ZmB ds
theorem datL_rep {w' : World} {S:Nat→Prop} {xs:List AV} {ds:List D} {vs:List Value} (h:Zwu xs=some ds) (hr:Zx (XI Γ w I) xs vs):QH w' S ds vs:=by
 obtain⟨h1,h2⟩:=Zk0 h;subst h1;clear h
 induction ds generalizing vs with
 | nil=>cases vs with
  | nil=>simp[QH]
  | cons _ _=>exact hr.elim
 | cons d ds ih=>cases vs with
  | nil=>exact hr.elim
  | cons v vs=>
   refine⟨v,vs,rfl,hr.1.1,ZeD (h2 d (by simp)) hr.1.2,ih (fun d' hd=>h2 d' (Kv _ hd)) hr.2⟩
theorem Zij:∀ {xs:List AV} {q:List D×Bool×List Nat},V1 hp xs=some q→XH xs=true
 | [],q,h=>rfl
 | x :: xs,q,h=>by
  simp only[V1] at h;obtain⟨q1,h1,h⟩:=Za h;obtain⟨q2,h2,h⟩:=Za h;simp only[XH,Zij h2,Kag];cases x<;>first | rfl | cases h1
theorem ZtX:∀ {xs:List AV} {q:List D×Bool×List Nat},V1 hp xs=some q→q.1.length=xs.length
 | [],q,h=>by simp only[V1] at h;cases h;rfl
 | x :: xs,q,h=>by
  simp only[V1] at h;obtain⟨q1,h1,h⟩:=Za h;obtain⟨q2,h2,h⟩:=Za h;split at h
  ·cases h;simp[ZtX h2]
  ·cases h
theorem ZtY:∀ {xs:List AV} {vs:List Value} {q:List D×Bool×List Nat},V1 hp xs=some q→Zx (XI Γ w I) xs vs→Zx (YS Γ w I) xs vs
 | [],[],q,h,hr=>trivial
 | [],_ :: _,q,h,hr=>hr.elim
 | _ :: _,[],q,h,hr=>hr.elim
 | x :: xs,v :: vs,q,h,hr=>by
  simp only[V1] at h;obtain⟨q1,h1,h⟩:=Za h;obtain⟨q2,h2,h⟩:=Za h;refine⟨?_,ZtY h2 hr.2⟩;cases x<;>first | exact hr.1 | cases h1
theorem ZBE (h:Sim nt F A I Γ U sl hp a w) {o:Oper} {t:TypeId} {x y:Operand} {x' y' : Opd} (ho:o.op=.store t x y) (hi:(P.info? t).isSome=true) (hx:ZW x=some x') (hy:ZW y=some y') {slc:List (Option Nat)}
  {base:Nat} (hb:Xd U base) (hd:QT nt o.dst=true) {ce:Zf} (bq:QW base (base+64) ce.eff.adds=true)
  (hv:ZgE (Zbr hp slc (P.cellsOf t) base (evO sl y').cells (evO sl x'))=some ce):Zei P nt F A I Γ U sl hp a w o base ce:=by
 obtain⟨i,hi⟩:=KX.1 hi;unfold ZgE at hv;obtain⟨ef,h1,hv⟩:=Za hv;cases hv;have a3:=h.slOK.ev hx;have a9:=h.slOK.ev hy;have ah:∀ (b off:Nat) (cur:Array Value) (e:TypeId),a.eval x=.pointer (some ⟨b,off,none⟩)→w.heap[b]?=some (.cells cur e (0,0))→(a.eval y).cells.size=P.cellsOf t→off+(a.eval y).cells.size≤cur.size →
   (∀ u∈(a.eval y).cells.toList,u.oneCell'=true)→ZrD P o a w undef (w.setRow b (Zu cur.toList off (a.eval y).cells.toList).toArray):=by
  intro b off cur e e1 e2 e3 e4 e5;refine .inr ⟨?_,rfl⟩;simp only[execOp,ho,e1,Instr.storeAt,Instr.sureAddr,Sem.run_bind,Sem.run_pure,Result.andThen_ok,Zvc hi e3 e2 e4 e5]
 unfold Zbr at h1;split at h1
 ·
  rename_i id off ap;rw[ap] at a3;obtain⟨⟨b,e⟩,hb1,hb2⟩:=a3;unfold ZhY at h1;split at h1
  ·rename_i cs hl;obtain⟨b',cur,e',ak,hw,hI,hF,hc,_⟩:=h.objs id _ hl;rw[hb1] at ak;cases ak;split at h1
   ·rename_i ae;obtain⟨c1,c2,c3,c4⟩:=ae;have a4:=Rep.cells (Zil c3) a9;have ag:(a.eval y).cells.size=P.cellsOf t:=by rw[← c1,a4.length];simp
    have b4:cs.length=cur.size:=by rw[hc.length];simp
    have hg:=ah b off cur e hb2 hw ag (by omega) (ZfZ c3 a4);have a5:ZT I I w (w.setRow b (Zu cur.toList off (a.eval y).cells.toList).toArray):=ZbS hI;have aa:(w.setRow b (Zu cur.toList off (a.eval y).cells.toList).toArray).heap[b]?=some (.cells (Zu cur.toList off (a.eval y).cells.toList).toArray e (0,0)):=setRow_heap w b cur _ e _ hw;split at h1
    ·cases h1;obtain⟨Γ',g1,g2,g3,g5⟩:=ZBC (w.setRow b (Zu cur.toList off (a.eval y).cells.toList).toArray) I F A (base+64) slc (evO sl y').cells (a.eval y).cells.toList base Γ bq (fun k hk a'=>h.names k (hb k hk a')) (a4.mono fun _ _ h=>h.mono (Qj.refl Γ) a5);refine⟨_,_,hg,?_⟩;rw[Xc];refine h.turn hb hl (by rw[hb1];rfl) hI hF g1 (fun k hk=>g2 k (hb.out hk)) g3 (fun k hk=>by rw[g2 k (ZwS hk).1];exact h.names k (ZwS hk).2) ?_ trivial hd (hbuf:=fun b hb=>(ZwP (ZbR c4 (by rw[ZiU];exact Zbg c3)) hb).elim);exact⟨b,_,e,g1 _ _ hb1,aa,hI,hF,by simpa using Zk1 (hc.mono fun _ _ h=>h.mono g1 a5) g5 off,ZfY (ZbR c4 (by rw[ZiU];exact Zbg c3))⟩
    ·cases h1;refine⟨_,_,hg,?_⟩;rw[Xc];refine h.turn hb hl (by rw[hb1];rfl) hI hF (adds:=[]) (Qj.refl Γ) (fun _ _=>rfl) (fun k o hk=>by simp at hk) (fun k hk=>h.names k (fun hu=>hk (.inl hu))) ?_ trivial hd (hbuf:=fun b hb=>(ZwP (ZbR c4 (Zbg c3)) hb).elim);exact⟨b,_,e,hb1,aa,hI,hF,by simpa using Zk1 (hc.mono fun _ _ h=>h.mono (Qj.refl Γ) a5) (a4.mono fun _ _ h=>h.mono (Qj.refl Γ) a5) off,ZfY (ZbR c4 (Zbg c3))⟩
   ·cases h1
  ·cases h1
 ·
  rename_i id sz j off ap;unfold ZcP at h1;split at h1
  ·rename_i br xs ex hl;split at h1
   ·rename_i ba;subst ba;obtain⟨el,a6,h1⟩:=Za h1;obtain⟨q,ai,h1⟩:=Za h1;unfold ZiL at h1;split at h1
    ·rename_i ae;obtain⟨c1,c2,c3,c4,c5⟩:=ae;cases h1;have h':=h.freeze q.2.2;have a7 : lkp (Qk q.2.2 hp) id=some (.row sz xs ex false):=by
      rw[Qe,hl];simp only[Lh,c5,Ka,Kk]
     have ar:=h'.slOK.ev hx;have bs:=h'.slOK.ev hy;rw[ap] at ar;obtain⟨b,n,c,hb1,hj,hb2⟩:=ar;obtain⟨ad,n',c',ak,hn,au⟩:=h'.objs id _ a7;rw[hb1] at ak;cases ak;rcases au with au | ⟨g,cur,e,bb,av,hw,bc,bd,aw,am,ax,bn,be⟩
     ·omega
     ·cases bb;simp only[Ka,Kk] at ax;have af:=Rep.cells (Zil (Zij ai)) a9;have ag:(a.eval y).cells.size=P.cellsOf t:=by
       have:=ZtX ai;have h2:=af.length;simp at h2;omega
      have bt:q.1.length=(a.eval y).cells.toList.length:=by simp;omega
      have b5:n=xs.length:=hn;have bo:j*sz+sz≤cur.size:=by
       rw[aw,← Nat.succ_mul];exact KI _ (by omega)
      have hg:=ah b (j*sz+off) cur e hb2 hw ag (by omega) (ZfZ (Zij ai) af);have bf:(Zu cur.toList (j*sz+off) (a.eval y).cells.toList).length=cur.size:=by rw[VT];simp;simp;omega
      have aa:(w.setRow b (Zu cur.toList (j*sz+off) (a.eval y).cells.toList).toArray).heap[b]?=some (.cells (Zu cur.toList (j*sz+off) (a.eval y).cells.toList).toArray e (0,0)):=setRow_heap w b cur _ e _ hw;refine⟨_,_,hg,W5.of_freeze h q.2.2 ?_⟩;rw[Xc];have ay:∀ e' : Bool,¬(if e' then fun b=>Xr Γ w hp I q.2.2 b∧A b else Xr Γ w hp I q.2.2) b:=fun e'=>by cases e' <;> simp<;>(try exact ax);exact fun hI=>absurd hI ax
      have bg:∀ e' : Bool,(e'=true→(ex&&q.2.1)=true∨True)→∀ x,(if ex then fun b=>Xr Γ w hp I q.2.2 b∧A b else Xr Γ w hp I q.2.2) x→(if (ex&&q.2.1) then fun b=>Xr Γ w hp I q.2.2 b∧A b else Xr Γ w hp I q.2.2) x:=fun _ _ x hx=>by
       cases ex<;>cases a8:q.2.1<;>simp[a8] at hx ⊢
       ·exact hx
       ·exact hx
       ·exact hx.1
       ·exact hx
      have az:∀ x,(if q.2.1 then fun b=>Xr Γ w hp I q.2.2 b∧A b else Xr Γ w hp I q.2.2) x→(if (ex&&q.2.1) then fun b=>Xr Γ w hp I q.2.2 b∧A b else Xr Γ w hp I q.2.2) x:=fun x hx=>by
       cases ex<;>cases a8:q.2.1<;>simp[a8] at hx ⊢
       ·exact hx
       ·exact hx.1
       ·exact hx
       ·exact hx
      have aj:ZT (if ex then fun b=>Xr Γ w hp I q.2.2 b∧A b else Xr Γ w hp I q.2.2) (if (ex&&q.2.1) then fun b=>Xr Γ w hp I q.2.2 b∧A b else Xr Γ w hp I q.2.2) w (w.setRow b (Zu cur.toList (j*sz+off) (a.eval y).cells.toList).toArray):=
       ⟨bg true (fun _=>.inr trivial),fun x hx=>setRow_other w b x _ fun e'=>ay ex (e' ▸ hx)⟩
      have a0:ZT (if q.2.1 then fun b=>Xr Γ w hp I q.2.2 b∧A b else Xr Γ w hp I q.2.2) (if (ex&&q.2.1) then fun b=>Xr Γ w hp I q.2.2 b∧A b else Xr Γ w hp I q.2.2) w (w.setRow b (Zu cur.toList (j*sz+off) (a.eval y).cells.toList).toArray):=
       ⟨az,fun x hx=>setRow_other w b x _ fun e'=>ay q.2.1 (e' ▸ hx)⟩
      have an:QH w (if q.2.1 then fun b=>Xr Γ w hp I q.2.2 b∧A b else Xr Γ w hp I q.2.2) q.1 (a.eval y).cells.toList:=
       (ZrZ h.hpOK h.own (ZtY ai af) ai).froze fun S S' hs hq=>hq.mono ⟨hs,fun _ _=>rfl⟩
      refine h'.turn hb a7 (by rw[hb1];simp[ZA,KA av]) ax bn (adds:=[]) (Qj.refl Γ) (fun _ _=>rfl) (fun k o hk=>by simp at hk) (fun k hk=>h.names k (fun hu=>hk (.inl hu))) ?_ trivial hd;refine⟨_,n,c,hb1,by simp[hn],.inr ⟨b,_,e,rfl,av,aa,bc,bd,by simp[bf,aw],am,by simpa using ax,bn,?_⟩⟩;rw[XW] at be ⊢;have al:∀ p,(w.setRow b (Zu cur.toList (j*sz+off) (a.eval y).cells.toList).toArray).cell? ⟨b,p,none⟩=(Zu cur.toList (j*sz+off) (a.eval y).cells.toList)[p]?:=fun p=>by
       rw[cell_of_row _ _ _ _ _ _ aa];simp
      have ab:∀ p,w.cell? ⟨b,p,none⟩=cur.toList[p]?:=fun p=>by rw[cell_of_row _ _ _ _ _ _ hw];simp
      intro k z hz;by_cases bh:k=j
      ·subst bh;have bu : k<xs.length:=(Kc.1 a6).1;rw[KW bu] at hz;cases hz;obtain⟨vs,v1,v2,v3⟩:=be k el a6;refine⟨Zu vs off (a.eval y).cells.toList,by rw[VT];exact v1;omega,?_,?_⟩
       ·intro p u hu;rw[Qp _ _ _ _ (by omega)] at hu;rw[al,Qp _ _ _ _ (by simp;omega)];split at hu
        ·rename_i bv;rw[Kj (by omega)];have:0+k*sz+p-(k*sz+off)=p-off:=by omega
         rw[this];exact hu
        ·rename_i bv;rw[Kg (by omega),← ab];exact v2 p u hu
       ·have aq:=an.mono a0;generalize a8:q.1=ds at aq c3 bt;cases el with
        | agg cs=>
         simp only[Yy,ZR] at v3 ⊢;exact QQ.2 (Zk1 (QQ.1 (v3.mono aj)) (QQ.1 aq) off)
        | sl zs=>cases c1
        | _=>
         simp only[D.cells,List.length_singleton] at c2;have bw:vs.length=1:=by omega
         obtain⟨v0,rfl⟩:=List.length_eq_one_iff.1 bw;have bx:=v3.mono aj;cases ds with
         | nil=>
          simp only[QH] at aq;simp only[Yy,List.headD_nil];rw[aq];simp only[Zu,KE,Ln,Kae,Lr];exact bx
         | cons d ds=>
          simp only[Kq] at c3;have bi:ds=[]:=Kp (by omega);subst bi;have bj:off=0:=by omega
          subst bj;simp only[QH] at aq;obtain⟨v,r,e1,e2,e3,rfl⟩:=aq;simp only[Yy,List.headD_cons];have bz:Zu [v0] 0 (a.eval y).cells.toList=(a.eval y).cells.toList:=by rw[e1];simp[Zu]
          rw[bz];have bk:∀ l,l=[v]→ZR (w.setRow b (Zu cur.toList (k*sz+0) (a.eval y).cells.toList).toArray) (if (ex&&q.2.1) then fun b=>Xr Γ w hp I q.2.2 b∧A b else Xr Γ w hp I q.2.2) d l:=fun l hl=>hl ▸ e3;exact bk _ e1
      ·rw[Lj (Ne.symm bh)] at hz;obtain⟨vs,v1,v2,v3⟩:=be k z hz;refine⟨vs,v1,?_,v3.mono aj⟩;intro p u hu;have b6:p<sz:=by have:=(Kc.1 hu).1;omega
       rw[al,Qp _ _ _ _ (by simp;omega),Kg,← ab]
       ·exact v2 p u hu
       ·intro hh;simp at hh;rcases LZ bh with a' | a'
        ·have:(k+1)*sz≤j*sz:=KI _ (by omega);rw[KO] at this;omega
        ·have:(j+1)*sz≤k*sz:=KI _ (by omega);rw[KO] at this;omega
    ·cases h1
   ·cases h1
  ·rename_i br ns xs lk hl;split at h1
   ·rename_i ba;subst ba;obtain⟨el,a6,h1⟩:=Za h1;obtain⟨q,ai,h1⟩:=Za h1;unfold ZiN at h1;split at h1
    ·rename_i ae;obtain⟨c1,c2,c3,c4,c5⟩:=ae;cases h1;rw[ap] at a3;obtain⟨b,n,c,hb1,hj,hb2⟩:=a3;obtain⟨ad,n',c',ak,⟨hn,au⟩,b0⟩:=h.objs id _ hl;rw[hb1] at ak;cases ak;rcases au with au | ⟨g,cur,e,B,bb,av,hw,bc,bd,aw,am,hE,bl,bm⟩
     ·omega
     ·cases bb;cases el with
      | int _ _=>cases c1
      | bool _=>cases c1
      | str _=>cases c1
      | sl _=>cases c1
      | agg cs=>
       have af:=Rep.cells (Zil (Zim ai)) a9;have ag:(a.eval y).cells.size=P.cellsOf t:=by
        have:=Zt3 ai;have h2:=af.length;simp at h2;omega
       have b1:(a.eval y).cells.toList.length=P.cellsOf t:=by simpa using ag
       have bo:j*sz+sz≤cur.size:=by
        rw[aw,← Nat.succ_mul];exact KI _ (by omega)
       have hg:=ah b (j*sz+off) cur e hb2 hw ag (by omega) (ZfZ (Zim ai) af);have ao:ZA (Γ id)=some b:=by rw[hb1];simp[ZA,KA av]
       obtain⟨Bq,q1,q2,q3,q4⟩:=Zr4 h (Zt4 ai af) ai;have a1:∀ x∈b :: B,x∉Bq:=fun x hx b2=>by
        obtain⟨k,hk,o',a7,ak⟩:=q4 x b2;have hB:Blk Γ w id (.tree sz ns xs lk) x:=(Kf.1 hx).elim (fun e=>.inl (e ▸ ao)) fun hx=>.inr (.inl ⟨b,B,ao,hE,hx⟩);have:=h.inj id k _ o' x hl a7 hB ak;subst this;simp at c5;exact c5 hk
       have ab:=(Lg.1 bl).1;obtain⟨⟨B',t1,t2⟩,t3⟩:=Zyh rfl hw hE b0 a6 (by simpa [D.cells] using c2) (by omega:off+(a.eval y).cells.toList.length≤sz) q1 ab (a1 b (by simp)) bo;rw[b1] at t1 t3;have a2:∀ x∈b :: B',x∈b :: B∨x∈Bq:=fun x hx=>by
        rcases Kf.1 hx with rfl | hx
        ·exact .inl (by simp)
        ·have h1:=Lc.2 hx;have h2:=t2 x;rcases LB (List.count x Bq) with h3 | h3
         ·exact .inl (Kv _ (Lc.1 (by omega)))
         ·exact .inr (Lc.1 h3)
       have bf:(Zu cur.toList (j*sz+off) (a.eval y).cells.toList).length=cur.size:=by rw[VT];simp;simp;omega
       have aa:(w.setRow b (Zu cur.toList (j*sz+off) (a.eval y).cells.toList).toArray).heap[b]?=some (.cells (Zu cur.toList (j*sz+off) (a.eval y).cells.toList).toArray e (0,0)):=setRow_heap w b cur _ e _ hw;refine⟨_,_,hg,?_⟩;rw[Xc];refine h.turnT (dels:=q.2) (by simpa using c5) hl ao (bm b (by simp)).1 (bm b (by simp)).2 (v:=.junk) ?_ trivial hd fun x hx=>?_
       ·refine⟨_,n,c,hb1,⟨by simp[hn],.inr ⟨b,_,e,B',rfl,av,aa,bc,bd,by simp[bf,aw],am,t1,?_,fun x hx=>?_⟩⟩,t3⟩
        ·rw[L5] at bl q2 ⊢;intro x;have h1:=bl x;have h2:=q2 x;have h3:=t2 x;simp only[List.count_cons] at h1 ⊢;rcases LB (List.count x Bq) with h4 | h4
         ·omega
         ·have h5:x∉b :: B:=fun hm=>a1 x hm (Lc.1 h4);have h6:=List.count_eq_zero.2 h5;simp only[List.count_cons] at h6;omega
        ·rcases a2 x hx with hm | hm
         ·exact bm x hm
         ·exact q3 x hm
       ·have ap : x∈b :: B∨x∈Bq:=by
         rcases hx with hx | ⟨g',B2,bp,b3,hx⟩ | hx
         ·rw[ZbZ,ao] at hx;cases hx;exact .inl (by simp)
         ·rw[ao] at bp;cases bp;cases ZZ.uniq t1 b3;exact a2 x (Kv _ hx)
         ·exact hx.elim
        rcases ap with hx | hx
        ·exact⟨id,by simp,_,hl,(Kf.1 hx).elim (fun e=>.inl (e ▸ ao)) fun hx=>.inr (.inl ⟨b,B,ao,hE,hx⟩)⟩
        ·obtain⟨k,hk,o',hh⟩:=q4 x hx;exact⟨k,by simp[hk],o',hh⟩
    ·cases h1
   ·cases h1
  ·cases h1
 ·cases h1
end
end Go.Abs
set_option linter.unusedVariables false
set_option linter.unusedSimpArgs false
namespace Go.Abs
open Go
section
variable {P:Program} {nt:Nat} {U:Nat→Prop} {F A I:Nat→Prop} {Γ:Gh} {sl:Sl} {hp:Hp} {a:Act} {w:World}
structure Src (P:Program) (w:World) (u:TypeId) (sz:Nat) (x:Value) (m:Nat) (news:List Value):Prop where
 type:∃ d,P.underlying u=some d∧∀ k,d≠.int k
 len:(Builtin.lenOf x).run P w=.ok m w
 cells:(Builtin.firstCells sz m x).run P w=.ok news.toArray w
 cells' : (Builtin.firstCells sz m x).run P w.drew=.ok news.toArray w.drew
 one:∀ v∈news,v.oneCell'=true
 length:news.length=m*sz
theorem Zik {t u ty e:TypeId} {i:TypeInfo} (ht:P.underlying t=some (.slice e)) (hi:P.info? e=some i) {x:Value} {m:Nat} {news:List Value} (hs:Src P w u i.size x m news)
  {g n c:Nat} {cur:Array Value} {e' : TypeId} (hg:w.heap[g]?=some (.cells cur e' (0,0))) (aa:n+m≤c) (ab:n*i.size+news.length≤cur.size) :
  (Builtin.append_ #[t,u] ty #[.slice (some ⟨g,0,none⟩) n c,x]).run P w=.ok (.slice (some ⟨g,0,none⟩) (n+m) c) (w.setRow g (cur.toList.take (n*i.size)++news++cur.toList.drop (n*i.size+news.length)).toArray):=by
 obtain⟨d,hd,ad⟩:=hs.type;have ae:=run_storeCells_at P g (n*i.size) e' news 0 cur w hg (by simpa using ab) hs.one;simp only[Kae] at ae;have hz:(match d with | .int _=>true | _=>false)=false:=by cases d<;>first | rfl | exact absurd rfl (ad _)
 simp only[Builtin.append_,sizeOf,typeInfo];simp[run_underlying ht,run_underlying hd,hi];cases d<;>first | exact absurd rfl (ad _) | skip
 all_goals simp[hs.len,aa,hs.cells,Addr.add_lit,ae]
theorem ZoT {t u ty e:TypeId} {i:TypeInfo} (ht:P.underlying t=some (.slice e)) (hi:P.info? e=some i) {x:Value} {news:List Value} (hs:Src P w u i.size x 0 news) {ad:Option Addr} {n c:Nat} (aa:n≤c) :
  (Builtin.append_ #[t,u] ty #[.slice ad n c,x]).run P w=.ok (.slice ad n c) w:=by
 obtain⟨d,hd,ab⟩:=hs.type;have hn:news=[]:=Kp (by rw[hs.length];simp);have hc:=hs.cells;rw[hn] at hc;simp only[Builtin.append_,sizeOf,typeInfo];simp[run_underlying ht,run_underlying hd,hi];cases d<;>first | exact absurd rfl (ab _) | skip
 all_goals
  simp[hs.len,aa,hc];cases ad<;>simp[storeCells]
theorem ZoU {t u ty e:TypeId} {i:TypeInfo} {z:Value} (ht:P.underlying t=some (.slice e)) (hi:P.info? e=some i) (hz:i.zero=some z) {x:Value} {m:Nat} {news:List Value} (hs:Src P w u i.size x m news)
  {ad:Option Addr} {n c:Nat} {aa:List Value} (ho:(Builtin.firstCells i.size n (.slice ad n c)).run P w.drew=.ok aa.toArray w.drew) (af:c<n+m) (ai:((n+m:Nat):Int)≤9223372036854775807)
  (ag:Builtin.nextslicecap (n+m) c*i.bytes≤281474976710656) :
  (Builtin.append_ #[t,u] ty #[.slice ad n c,x]).run P w=.ok (.slice (some ⟨w.heap.size,0,none⟩) (n+m) (grownCap w (n+m) c e))
   (w.drew.alloc (.cells ((aa++news).toArray++Builtin.zeroCells z.cells (grownCap w (n+m) c e-(n+m))) e)):=by
 obtain⟨d,hd,ah⟩:=hs.type;have hn:¬(n+m≤c):=by omega
 have ab : ¬(9223372036854775807<((n:Int)+(m:Int))):=by omega
 have ae : ¬(281474976710656<Builtin.nextslicecap (n+m) c*i.bytes):=by omega
 simp only[Builtin.append_,sizeOf,typeInfo,zeroValue];simp[run_underlying ht,run_underlying hd,hi,hz];cases d<;>first | exact absurd rfl (ah _) | skip
 all_goals
  simp[hs.len,hn,ab,ae,Question.forced,ho,hs.cells',newRow,grownCap];congr 2
  apply Array.ext';simp
theorem drew_cell (w:World) (a:Addr):w.drew.cell? a=w.cell? a:=rfl
theorem QL.drew {b o:Nat} {vs:List Value} (h:QL w b o vs):QL w.drew b o vs:=h
theorem Va {sz n c:Nat} {ad:Option Addr} {news:List Value} (hl:news.length=n*sz) (h:n=0∨∃ b o,ad=some ⟨b,o,none⟩∧QL w b o news) :
  (Builtin.firstCells sz n (.slice ad n c)).run P w=.ok news.toArray w:=by
 rcases h with h | ⟨b,o,rfl,h⟩
 ·subst h;have hn:news=[]:=Kp (by simpa using hl);subst hn;cases ad<;>simp[Builtin.firstCells,loadCells,loadCellsFrom]
 ·exact run_firstCells_some (P:=P) w sz n ⟨b,o,none⟩ n c news hl fun j u hu=>by rw[Ut];exact h j u hu
theorem ZmC {S:Nat→Prop} {b sz:Nat} {xs:List D} {o:Nat} (h:W6 w S b sz xs o) (off n:Nat):W6 w S b sz ((xs.drop off).take n) (o+off*sz):=by
 rw[XW] at h ⊢;intro i x hx;rw[Lv] at hx;split at hx
 ·rw[Le] at hx;obtain⟨vs,h1,h2,h3⟩:=h _ x hx;exact⟨vs,h1,by rw[KO,← Lo] at h2;exact h2,h3⟩
 ·cases hx
theorem WF {S:Nat→Prop} {sz:Nat}:Z6 w S sz [] []:=trivial
theorem ZdD {w' : World} {S S' : Nat→Prop} {sz:Nat}:∀ {xs:List D} {cs:List (List Value)},Q9 xs→Z6 w S sz xs cs→Z6 w' S' sz xs cs
 | [],[],_,_=>trivial
 | [],_ :: _,_,h=>h.elim
 | _ :: _,[],_,h=>h.elim
 | x :: xs,c :: cs,hf,h=>⟨⟨h.1.1,ZrV (hf x (by simp)) h.1.2⟩,ZdD (fun y hy=>hf y (by simp[hy])) h.2⟩
theorem Zr2 {S:Nat→Prop} {sz:Nat} {xs:List D} {cs:List (List Value)} (h:Z6 w S sz xs cs):∀ v∈cs.flatten,v.oneCell'=true:=by
 intro v hv;obtain⟨c,hc,hv⟩:=List.mem_flatten.1 hv;obtain⟨i,hi⟩:=LD hc;obtain⟨d,_,hd⟩:=Zx.get' h i c hi;obtain⟨j,hj⟩:=LD hv;obtain⟨d',aa,h1,h2⟩:=(QQ.1 hd.2.cells).get' j v hj;exact Zt0 (Γ:=fun _=>none) (w:=w) (I:=S) (x:=.d d') rfl ⟨h1,h2⟩
def inS (I A:Nat→Prop) (ex:Bool):Nat→Prop:=if ex then fun b=>I b∧A b else I
theorem Zva {ex:Bool}:∀ b,inS I A ex b→I b:=by
 intro b h;unfold inS at h;cases ex<;>simp at h
 ·exact h
 ·exact h.1
theorem ZiV {ex aa : Bool}:∀ b,inS I A ex b→inS I A (ex&&aa) b:=by
 intro b h;unfold inS at h ⊢;cases ex<;>cases aa <;> simp at h ⊢
 ·exact h
 ·exact h
 ·exact h.1
 ·exact h
theorem ZaI {S S' : Nat→Prop} {sz:Nat} (h:∀ b,S b→S' b) {xs:List D} {cs:List (List Value)} (hc:Z6 w S sz xs cs):Z6 w S' sz xs cs:=hc.mono ⟨h,fun _ _=>rfl⟩
theorem ZCV {S:Nat→Prop} {b o sz:Nat} {xs:List D} (h:W6 w S b sz xs o):∃ cs,Z6 w S sz xs cs∧QL w b o cs.flatten:=Ym h
theorem Zr3 {e u:TypeId} {str:Bool} (h:ZoL P e u=some str):(str=true∧P.underlying u=some .string)∨(str=false∧P.underlying u=some (.slice e)):=by
 unfold ZoL at h;split at h
 ·rename_i e' he;split at h
  ·rename_i aa;cases h;subst aa;exact .inr ⟨rfl,QU he⟩
  ·cases h
 ·split at h
  ·rename_i ab;cases h;exact .inl ⟨rfl,U2 ab⟩
  ·cases h
theorem WY {u e:TypeId} (hu:P.underlying u=some (.slice e)) {S:Nat→Prop} {sz n c:Nat} {ad:Option Addr} {ys:List D} (hn:n=ys.length) {cs:List (List Value)} (hc:Z6 w S sz ys cs)
  (h:n=0∨∃ b o,ad=some ⟨b,o,none⟩∧QL w b o cs.flatten):Src P w u sz (.slice ad n c) ys.length cs.flatten:=by
 subst hn;have hl:=hc.length_flatten;exact⟨⟨_,hu,fun k=>by simp⟩,by simp[Builtin.lenOf],Va hl h,Va hl (h.imp id fun ⟨b,o,h1,h2⟩=>⟨b,o,h1,h2.drew⟩),Zr2 hc,hl⟩
theorem ZmD {S:Nat→Prop}:∀ (s:List UInt8),Z6 w S 1 (s.map fun b=>.int .u8 b.toNat) (s.map fun b=>[.int .u8 b.toNat])
 | []=>trivial
 | b :: s=>⟨⟨rfl,by simp[ZR]⟩,ZmD s⟩
theorem src_ok (ho:Zaz Γ w I F A hp) {e u:TypeId} {str flat:Bool} (al:ZoL P e u=some str) {sz:Nat} {x:AV} {xv:Value} (hx:Rep Γ w I x xv) {q:List D×Bool}
  (hq:(if str then Zrn x else Zh0 hp flat x)=some q) (ae:uni sz q.1) (aa:flat=true→Q9 q.1) :
  ∃ cs,Src P w u sz xv q.1.length cs.flatten∧Z6 w (inS I A q.2) sz q.1 cs:=by
 rcases Zr3 al with ⟨rfl,hu⟩ | ⟨rfl,hu⟩
 ·simp only[Km] at hq;unfold Zrn at hq;split at hq
  ·cases hq;obtain⟨t,rfl,rfl⟩:=ZfB hx;have af:t.data.toList=[]∨sz=1:=by
    cases ht:t.data.toList with
    | nil=>exact .inl rfl
    | cons b l=>right;have:=ae (.int .u8 b.toNat) (by simp[ht]);simpa [D.cells] using this.symm
   refine⟨t.data.toList.map fun b=>[.int .u8 b.toNat],?_,?_⟩
   ·have au:(t.data.toList.map fun b=>[Value.int .u8 b.toNat]).flatten=t.data.toList.map fun b=>Value.int .u8 b.toNat:=by
     induction t.data.toList with
     | nil=>rfl
     | cons b l ih=>simp[ih]
    have ab:t.data.toList.length=t.size:=rfl;have ao:∀ w:World,(Builtin.firstCells sz t.size (.string t)).run P w=.ok (t.data.map fun b=>Value.int .u8 b.toNat) w:=by
     intro w;have hx:t.extract 0 t.size=t:=by apply ByteArray.ext;rw[ByteArray.data_extract];exact Array.extract_size
     show (pure ((t.extract 0 t.size).data.map fun b=>Value.int .u8 b.toNat):Sem (Array Value)).run P w=_;rw[hx];rfl
    have ag:(t.data.toList.map fun b=>Value.int .u8 b.toNat).toArray=t.data.map fun b=>Value.int .u8 b.toNat:=by
     apply Array.ext';simp
    rw[au];simp only[KB,ab];refine⟨⟨_,hu,fun k=>by simp⟩,by simp[Builtin.lenOf],by rw[ao,ag],by rw[ao,ag],?_,?_⟩
    ·intro v hv;obtain⟨b,_,rfl⟩:=Li.1 hv;rfl
    ·rcases af with h0 | h1
     ·have:t.size=0:=by rw[← ab,h0];rfl
      simp[h0,this]
     ·subst h1;simp[ab]
   ·rcases af with h0 | h1
    ·rw[h0];exact trivial
    ·subst h1;exact ZmD _
  ·cases hq
 ·simp only[Ka,Kk] at hq;unfold Zh0 at hq;split at hq
  ·cases hq;obtain⟨ad,rfl⟩:=hx;exact⟨[],WY hu rfl (WF (S:=I)) (.inl rfl),trivial⟩
  ·rename_i ys;cases hq;have h1:=Xq.1 hx;simp only[Xf,ZR] at h1;obtain⟨ad,c,hv,hc,h1⟩:=h1;simp at hv;subst hv;have hS:∀ {cs},Z6 w I sz ys cs→Z6 w (inS I A flat) sz ys cs:=by
    intro cs ap;cases flat
    ·exact ap
    ·exact ZdD (aa rfl) ap
   rcases h1 with rfl | ⟨b,o,am,rfl,hI,h0,hr⟩
   ·exact⟨[],WY hu rfl (WF (S:=I)) (.inl rfl),trivial⟩
   ·cases ys with
    | nil=>exact⟨[],WY hu rfl (WF (S:=I)) (.inl rfl),trivial⟩
    | cons y ys=>
     obtain⟨cs,h2,h3⟩:=Ym hr;have af:am=sz:=by
      obtain⟨vs,h4,h5,h6⟩:=XW.1 hr 0 y (by simp);rw[← h4,h6.length];exact ae y (by simp)
     subst af;exact⟨cs,WY hu rfl h2 (.inr ⟨b,o,rfl,h3⟩),hS h2⟩
  ·rename_i id;unfold ZuQ at hq;split at hq
   ·rename_i ai ys ex fz hl;cases hq;obtain⟨ad,n,c,h1,h2,h3⟩:=ho id _ hl;obtain⟨a3,n',c',am,h4,rfl⟩:=hx;rw[h1] at h4;cases h4;rcases h3 with h3 | ⟨g,cur,e',rfl,hc,hw,h4,h5,h6,h7,h8,aw,h9⟩
    ·have hy:ys=[]:=Kp (by omega);subst hy;exact⟨[],WY hu h2 (WF (S:=I)) (.inl (by simpa using h2)),trivial⟩
    ·cases ys with
     | nil=>exact⟨[],WY hu h2 (WF (S:=I)) (.inl (by simpa using h2)),trivial⟩
     | cons y ys=>
      obtain⟨cs,ah,aq⟩:=Ym h9;have af:ai=sz:=by
       obtain⟨vs,ar,ax,aj⟩:=XW.1 h9 0 y (by simp);rw[← ar,aj.length];exact ae y (by simp)
      subst af;refine⟨cs,WY hu h2 ah (.inr ⟨g,0,rfl,aq⟩),?_⟩;cases ex
      ·cases flat
       ·exact ah
       ·exact ZdD (aa rfl) ah
      ·exact ah
   ·cases hq
  ·rename_i id off n;unfold Zpy at hq;split at hq
   ·rename_i ai ys ex fz hl;cases hq;obtain⟨ad,m,c,h1,h2,h3⟩:=ho id _ hl;obtain⟨a0,m',c',am,av,h4,h5,h6,rfl,h7,h8⟩:=hx;rw[h1] at h4;cases h4;have an:n=((ys.drop off).take n).length:=by simp;omega
    by_cases ay:n=0
    ·subst ay;simp only[LY];exact⟨[],WY hu rfl (WF (S:=I)) (.inl rfl),trivial⟩
    ·rcases h3 with h3 | ⟨g,cur,e',rfl,hc,hw,h9,ah,aq,ar,ax,aw,aj⟩
     ·omega
     ·obtain⟨cs,ak,az⟩:=Ym (ZmC aj off n);have af:ai=sz:=by
       obtain⟨y,hy⟩:∃ y,((ys.drop off).take n)[0]?=some y:=⟨_,Kw (by omega)⟩
       obtain⟨vs,a1,a4,a2⟩:=XW.1 (ZmC aj off n) 0 y hy;rw[← a1,a2.length];exact ae y (Kb hy)
      subst af;rcases h8 with h8 | h8
      ·subst h8;refine⟨cs,WY hu an ak (.inr ⟨g,off*ai,by simp[Ut],by simpa using az⟩),?_⟩;cases ex
       ·cases flat
        ·exact ak
        ·exact ZdD (aa rfl) ak
       ·exact ak
      ·omega
   ·cases hq
  ·cases hq
end
end Go.Abs
