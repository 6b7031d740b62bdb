/- Own text. -/
import Derived.Test.YtcefneehgbiebaaGreatDoorAbsStep5
set_option linter.unusedVariables false
set_option linter.unusedSimpArgs false
namespace Go.Abs
open Go
section
variable {P:Program} {nt:Nat} {U:Nat→Prop} {F A I:Nat→Prop} {Γ:Gh} {sl:Sl} {hp:Hp} {a:Act} {w:World}
theorem Xk.out {U:Nat→Prop} {base k:Nat} (h:Xk U base) (hk:U k):k<base∨base+64≤k:=by
 rcases KT k base with h1 | h1
 ·exact .inl h1
 ·rcases KT k (base+64) with h2 | h2
  ·exact absurd hk (h k h1 h2)
  ·exact .inr h2
theorem Zu3 {U:Nat→Prop} {base k:Nat} (h:¬JJ U base k):(k<base∨base+64≤k)∧¬U k:=by
 refine⟨?_,fun hu=>h (.inl hu)⟩;rcases KT k base with h1 | h1
 ·exact .inl h1
 ·rcases KT k (base+64) with h2 | h2
  ·exact absurd (.inr ⟨h1,h2⟩) h
  ·exact .inr h2
theorem Zb7 {g:Nat} {cur:Array Value} {S:Nat→Prop} (h:¬S g):ZP S S w (w.setRow g cur):=
 ⟨fun _ h=>h,fun b hb=>setRow_other w g b cur fun e=>h (e ▸ hb)⟩
theorem post_eq {U' : Nat→Prop} {sl' : Sl} {hp' aa : Hp} {a' : Act} {w' : World} (h:UD nt F A I Γ w U' sl' hp' a' w') (e:hp'=aa):UD nt F A I Γ w U' sl' aa a' w':=e ▸ h
theorem ZiU:∀ {xs:List AV} {ds:List D},ZuG xs=some ds→xs=ds.map AV.d∧∀ d∈ds,d.plain=true
 | [],ds,h=>by simp only[ZuG] at h;cases h;exact⟨rfl,by simp⟩
 | x :: xs,ds,h=>by
  simp only[ZuG] at h;obtain⟨d,h1,h⟩:=Za h;obtain⟨aa,h2,h⟩:=Za h;cases h;obtain⟨h3,h4⟩:=ZiU h2;unfold ZsY at h1;split at h1
  ·split at h1
   ·cases h1;rename_i hp';refine⟨by rw[h3];rfl,fun d' hd=>?_⟩;rcases Kf.1 hd with rfl | hd
    ·exact hp'
    ·exact h4 d' hd
   ·cases h1
  ·cases h1
theorem ZjQ:∀ ds:List D,Ye (ds.map AV.d)=true
 | []=>rfl
 | d :: ds=>by simp only[Kj,Ye,ZjQ ds,LP];rfl
theorem ZCD {xs:List AV} {ds:List D} (h:ZuG xs=some ds):Ye xs=true:=by
 rw[(ZiU h).1];exact ZjQ ds
theorem datL_rep {w' : World} {S:Nat→Prop} {xs:List AV} {ds:List D} {vs:List Value} (h:ZuG xs=some ds) (hr:Zt (XJ Γ w I) xs vs):Xr w' S ds vs:=by
 obtain⟨h1,h2⟩:=ZiU h;subst h1;clear h
 induction ds generalizing vs with
 | nil=>cases vs with
  | nil=>simp[Xr]
  | cons _ _=>exact hr.elim
 | cons d ds ih=>cases vs with
  | nil=>exact hr.elim
  | cons v vs=>
   refine⟨v,vs,rfl,hr.1.1,ZhL (h2 d (by simp)) hr.1.2,ih (fun d' hd=>h2 d' (Kz _ hd)) hr.2⟩
theorem ZgQ:∀ {xs:List AV} {q:List D×Bool×List Nat},Wp hp xs=some q→Ye xs=true
 | [],q,h=>rfl
 | x :: xs,q,h=>by
  simp only[Wp] at h;obtain⟨q1,h1,h⟩:=Za h;obtain⟨q2,h2,h⟩:=Za h;simp only[Ye,ZgQ h2,LP];cases x<;>first | rfl | cases h1
theorem Zr7:∀ {xs:List AV} {q:List D×Bool×List Nat},Wp hp xs=some q→q.1.length=xs.length
 | [],q,h=>by simp only[Wp] at h;cases h;rfl
 | x :: xs,q,h=>by
  simp only[Wp] at h;obtain⟨q1,h1,h⟩:=Za h;obtain⟨q2,h2,h⟩:=Za h;split at h
  ·cases h;simp[Zr7 h2]
  ·cases h
theorem Zr8:∀ {xs:List AV} {vs:List Value} {q:List D×Bool×List Nat},Wp hp xs=some q→Zt (XJ Γ w I) xs vs→Zt (Y9 Γ w I) xs vs
 | [],[],q,h,hr=>trivial
 | [],_ :: _,q,h,hr=>hr.elim
 | _ :: _,[],q,h,hr=>hr.elim
 | x :: xs,v :: vs,q,h,hr=>by
  simp only[Wp] at h;obtain⟨q1,h1,h⟩:=Za h;obtain⟨q2,h2,h⟩:=Za h;refine⟨?_,Zr8 h2 hr.2⟩;cases x<;>first | exact hr.1 | cases h1
theorem Zz4 (h:Sim nt F A I Γ U sl hp a w) {o:Oper} {t:TypeId} {x y:Operand} {x' y' : Opd} (ho:o.op=.store t x y) (hi:(P.info? t).isSome=true) (hx:Z2 x=some x') (hy:Z2 y=some y') {slc:List (Option Nat)}
  {base:Nat} (hb:Xk U base) (hd:Q7 nt o.dst=true) {ce:Zd} (bg:QT base (base+64) ce.eff.adds=true)
  (hv:Zgg (ZaB hp slc (P.cellsOf t) base (evO sl y').cells (evO sl x'))=some ce):ZeF P nt F A I Γ U sl hp a w o base ce:=by
 obtain⟨i,hi⟩:=K1.1 hi;unfold Zgg at hv;obtain⟨ef,h1,hv⟩:=Za hv;cases hv;have a9:=h.slOK.ev hx;have a':=h.slOK.ev hy;have ah:∀ (b off:Nat) (cur:Array Value) (e:TypeId),a.eval x=.pointer (some ⟨b,off,none⟩)→w.heap[b]?=some (.cells cur e (0,0))→(a.eval y).cells.size=P.cellsOf t→off+(a.eval y).cells.size≤cur.size →
   (∀ u∈(a.eval y).cells.toList,u.oneCell'=true)→Zon P o a w undef (w.setRow b (Z9 cur.toList off (a.eval y).cells.toList).toArray):=by
  intro b off cur e e1 e2 e3 e4 e5;refine .inr ⟨?_,rfl⟩;simp only[execOp,ho,e1,Instr.storeAt,Instr.sureAddr,Sem.run_bind,Sem.run_pure,Result.andThen_ok,Ztk hi e3 e2 e4 e5]
 unfold ZaB at h1;split at h1
 ·
  rename_i id off az;rw[az] at a9;obtain⟨⟨b,e⟩,ag,a0⟩:=a9;unfold Zeq at h1;split at h1
  ·rename_i cs hl;obtain⟨b',cur,e',an,hw,hI,hF,hc,_⟩:=h.objs id _ hl;rw[ag] at an;cases an;split at h1
   ·rename_i ab;obtain⟨c1,c2,c3,c4⟩:=ab;have aw:=Rep.cells (Zl7 c3) a';have aj:(a.eval y).cells.size=P.cellsOf t:=by rw[← c1,aw.length];simp
    have bt:cs.length=cur.size:=by rw[hc.length];simp
    have hg:=ah b off cur e a0 hw aj (by omega) (ZiS c3 aw);have ax:ZP I I w (w.setRow b (Z9 cur.toList off (a.eval y).cells.toList).toArray):=Zb7 hI;have aa:(w.setRow b (Z9 cur.toList off (a.eval y).cells.toList).toArray).heap[b]?=some (.cells (Z9 cur.toList off (a.eval y).cells.toList).toArray e (0,0)):=setRow_heap w b cur _ e _ hw;split at h1
    ·cases h1;obtain⟨Γ',g1,g2,g3,g5⟩:=Zz2 (w.setRow b (Z9 cur.toList off (a.eval y).cells.toList).toArray) I F A (base+64) slc (evO sl y').cells (a.eval y).cells.toList base Γ bg (fun k hk a1=>h.names k (hb k hk a1)) (aw.mono fun _ _ h=>h.mono (Q4.refl Γ) ax);refine⟨_,_,hg,?_⟩;rw[Xu];refine h.turn hb hl (by rw[ag];rfl) hI hF g1 (fun k hk=>g2 k (hb.out hk)) g3 (fun k hk=>by rw[g2 k (Zu3 hk).1];exact h.names k (Zu3 hk).2) ?_ trivial hd (hbuf:=fun b hb=>(Zu0 (Zb6 c4 (by rw[ZhK];exact Zbj c3)) hb).elim);exact⟨b,_,e,g1 _ _ ag,aa,hI,hF,by simpa using ZiT (hc.mono fun _ _ h=>h.mono g1 ax) g5 off,ZaI (Zb6 c4 (by rw[ZhK];exact Zbj c3))⟩
    ·cases h1;refine⟨_,_,hg,?_⟩;rw[Xu];refine h.turn hb hl (by rw[ag];rfl) hI hF (adds:=[]) (Q4.refl Γ) (fun _ _=>rfl) (fun k o hk=>by simp at hk) (fun k hk=>h.names k (fun hu=>hk (.inl hu))) ?_ trivial hd (hbuf:=fun b hb=>(Zu0 (Zb6 c4 (Zbj c3)) hb).elim);exact⟨b,_,e,ag,aa,hI,hF,by simpa using ZiT (hc.mono fun _ _ h=>h.mono (Q4.refl Γ) ax) (aw.mono fun _ _ h=>h.mono (Q4.refl Γ) ax) off,ZaI (Zb6 c4 (Zbj c3))⟩
   ·cases h1
  ·cases h1
 ·
  rename_i id sz j off az;unfold Zct at h1;split at h1
  ·rename_i bu xs ex hl;split at h1
   ·rename_i bh;subst bh;obtain⟨el,ba,h1⟩:=Za h1;obtain⟨q,ao,h1⟩:=Za h1;unfold Zer at h1;split at h1
    ·rename_i ab;obtain⟨c1,c2,c3,c4,c5⟩:=ab;cases h1;have h':=h.freeze q.2.2;have bb : lkp (Qc q.2.2 hp) id=some (.row sz xs ex false):=by
      rw[Z8,hl];simp only[KJ,c5,Ka,Ko]
     have ap:=h'.slOK.ev hx;have bi:=h'.slOK.ev hy;rw[az] at ap;obtain⟨b,n,c,ag,hj,a0⟩:=ap;obtain⟨ad,n',c',an,hn,bc⟩:=h'.objs id _ bb;rw[ag] at an;cases an;rcases bc with bc | ⟨g,cur,e,bj,bd,hw,bk,bl,be,a2,aq,bf,a3⟩
     ·omega
     ·cases bj;simp only[Ka,Ko] at aq;have ak:=Rep.cells (Zl7 (ZgQ ao)) a';have aj:(a.eval y).cells.size=P.cellsOf t:=by
       have:=Zr7 ao;have h2:=ak.length;simp at h2;omega
      have bm:q.1.length=(a.eval y).cells.toList.length:=by simp;omega
      have bv:n=xs.length:=hn;have bw:j*sz+sz≤cur.size:=by
       rw[be,← Nat.succ_mul];exact KB _ (by omega)
      have hg:=ah b (j*sz+off) cur e a0 hw aj (by omega) (ZiS (ZgQ ao) ak);have bn:(Z9 cur.toList (j*sz+off) (a.eval y).cells.toList).length=cur.size:=by rw[ZdP];simp;simp;omega
      have aa:(w.setRow b (Z9 cur.toList (j*sz+off) (a.eval y).cells.toList).toArray).heap[b]?=some (.cells (Z9 cur.toList (j*sz+off) (a.eval y).cells.toList).toArray e (0,0)):=setRow_heap w b cur _ e _ hw;refine⟨_,_,hg,UD.of_freeze h q.2.2 ?_⟩;rw[Xu];have ar:∀ e' : Bool,¬(if e' then fun b=>Xv Γ w hp I q.2.2 b∧A b else Xv Γ w hp I q.2.2) b:=fun e'=>by cases e' <;> simp<;>(try exact aq);exact fun hI=>absurd hI aq
      have a4:∀ e' : Bool,(e'=true→(ex&&q.2.1)=true∨True)→∀ x,(if ex then fun b=>Xv Γ w hp I q.2.2 b∧A b else Xv Γ w hp I q.2.2) x→(if (ex&&q.2.1) then fun b=>Xv Γ w hp I q.2.2 b∧A b else Xv Γ w hp I q.2.2) x:=fun _ _ x hx=>by
       cases ex<;>cases ay:q.2.1<;>simp[ay] at hx ⊢
       ·exact hx
       ·exact hx
       ·exact hx.1
       ·exact hx
      have au:∀ x,(if q.2.1 then fun b=>Xv Γ w hp I q.2.2 b∧A b else Xv Γ w hp I q.2.2) x→(if (ex&&q.2.1) then fun b=>Xv Γ w hp I q.2.2 b∧A b else Xv Γ w hp I q.2.2) x:=fun x hx=>by
       cases ex<;>cases ay:q.2.1<;>simp[ay] at hx ⊢
       ·exact hx
       ·exact hx.1
       ·exact hx
       ·exact hx
      have ae:ZP (if ex then fun b=>Xv Γ w hp I q.2.2 b∧A b else Xv Γ w hp I q.2.2) (if (ex&&q.2.1) then fun b=>Xv Γ w hp I q.2.2 b∧A b else Xv Γ w hp I q.2.2) w (w.setRow b (Z9 cur.toList (j*sz+off) (a.eval y).cells.toList).toArray):=
       ⟨a4 true (fun _=>.inr trivial),fun x hx=>setRow_other w b x _ fun e'=>ar ex (e' ▸ hx)⟩
      have av:ZP (if q.2.1 then fun b=>Xv Γ w hp I q.2.2 b∧A b else Xv Γ w hp I q.2.2) (if (ex&&q.2.1) then fun b=>Xv Γ w hp I q.2.2 b∧A b else Xv Γ w hp I q.2.2) w (w.setRow b (Z9 cur.toList (j*sz+off) (a.eval y).cells.toList).toArray):=
       ⟨au,fun x hx=>setRow_other w b x _ fun e'=>ar q.2.1 (e' ▸ hx)⟩
      have al:Xr w (if q.2.1 then fun b=>Xv Γ w hp I q.2.2 b∧A b else Xv Γ w hp I q.2.2) q.1 (a.eval y).cells.toList:=
       (ZoI h.hpOK h.own (Zr8 ao ak) ao).froze fun S S' hs hq=>hq.mono ⟨hs,fun _ _=>rfl⟩
      refine h'.turn hb bb (by rw[ag];simp[Zy,KC bd]) aq bf (adds:=[]) (Q4.refl Γ) (fun _ _=>rfl) (fun k o hk=>by simp at hk) (fun k hk=>h.names k (fun hu=>hk (.inl hu))) ?_ trivial hd;refine⟨_,n,c,ag,by simp[hn],.inr ⟨b,_,e,rfl,bd,aa,bk,bl,by simp[bn,be],a2,by simpa using aq,bf,?_⟩⟩;rw[X5] at a3 ⊢;have ai:∀ p,(w.setRow b (Z9 cur.toList (j*sz+off) (a.eval y).cells.toList).toArray).cell? ⟨b,p,none⟩=(Z9 cur.toList (j*sz+off) (a.eval y).cells.toList)[p]?:=fun p=>by
       rw[cell_of_row _ _ _ _ _ _ aa];simp
      have af:∀ p,w.cell? ⟨b,p,none⟩=cur.toList[p]?:=fun p=>by rw[cell_of_row _ _ _ _ _ _ hw];simp
      intro k z hz;by_cases a5:k=j
      ·subst a5;have bo : k<xs.length:=(Kb.1 ba).1;rw[List.getElem?_set_self bo] at hz;cases hz;obtain⟨vs,v1,v2,v3⟩:=a3 k el ba;refine⟨Z9 vs off (a.eval y).cells.toList,by rw[ZdP];exact v1;omega,?_,?_⟩
       ·intro p u hu;rw[ZaL _ _ _ _ (by omega)] at hu;rw[ai,ZaL _ _ _ _ (by simp;omega)];split at hu
        ·rename_i bp;rw[Ki (by omega)];have:0+k*sz+p-(k*sz+off)=p-off:=by omega
         rw[this];exact hu
        ·rename_i bp;rw[Kd (by omega),← af];exact v2 p u hu
       ·have am:=al.mono av;generalize ay:q.1=ds at am c3 bm;cases el with
        | agg cs=>
         simp only[Ze0,ZO] at v3 ⊢;exact Xn.2 (ZiT (Xn.1 (v3.mono ae)) (Xn.1 am) off)
        | sl zs=>cases c1
        | _=>
         simp only[D.cells,List.length_singleton] at c2;have bq:vs.length=1:=by omega
         obtain⟨v0,rfl⟩:=List.length_eq_one_iff.1 bq;have br:=v3.mono ae;cases ds with
         | nil=>
          simp only[Xr] at am;simp only[Ze0,List.headD_nil];rw[am];simp only[Z9,K8,KM,Nat.add_zero,LQ];exact br
         | cons d ds=>
          simp only[Ks] at c3;have a6:ds=[]:=Kp (by omega);subst a6;have a7:off=0:=by omega
          subst a7;simp only[Xr] at am;obtain⟨v,r,e1,e2,e3,rfl⟩:=am;simp only[Ze0,List.headD_cons];have bs:Z9 [v0] 0 (a.eval y).cells.toList=(a.eval y).cells.toList:=by rw[e1];simp[Z9]
          rw[bs];have a8:∀ l,l=[v]→ZO (w.setRow b (Z9 cur.toList (k*sz+0) (a.eval y).cells.toList).toArray) (if (ex&&q.2.1) then fun b=>Xv Γ w hp I q.2.2 b∧A b else Xv Γ w hp I q.2.2) d l:=fun l hl=>hl ▸ e3;exact a8 _ e1
      ·rw[List.getElem?_set_ne (Ne.symm a5)] at hz;obtain⟨vs,v1,v2,v3⟩:=a3 k z hz;refine⟨vs,v1,?_,v3.mono ae⟩;intro p u hu;have bx:p<sz:=by have:=(Kb.1 hu).1;omega
       rw[ai,ZaL _ _ _ _ (by simp;omega),Kd,← af]
       ·exact v2 p u hu
       ·intro hh;simp at hh;rcases Lw a5 with a1 | a1
        ·have:(k+1)*sz≤j*sz:=KB _ (by omega);rw[KE] at this;omega
        ·have:(j+1)*sz≤k*sz:=KB _ (by omega);rw[KE] at this;omega
    ·cases h1
   ·cases h1
  ·cases h1
 ·cases h1
end
end Go.Abs
