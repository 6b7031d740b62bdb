/- Own text. -/
import Derived.Test.YtcefneehgbiebaaGreatDoorAbsDraw4
set_option linter.unusedVariables false
set_option linter.unusedSimpArgs false
namespace Go.Abs
open Go
section
variable {P:Program} {nt:Nat} {F A:Nat→Prop} {Γ0:Gh}
theorem Zzx {I:Nat→Prop} {Γ:Gh} {U U' : Nat→Prop} {s r:Sl×Hp} {a:Act} {w:World} (h:Sim nt F A I Γ U s.1 s.2 a w) (hs:X0 s r) (hu:∀ id,U id→U' id):Sim nt F A I Γ U' r.1 r.2 a w where
 nt:=h.nt
 dfr:=h.dfr
 slots:=fun t=>by rw[← hs.1 t];exact h.slots t
 objs:=fun id o hl=>h.objs id o (by rw[hs.2 id];exact hl)
 inj:=fun i j o o' b hi hj=>h.inj i j o o' b (by rw[hs.2 i];exact hi) (by rw[hs.2 j];exact hj)
 bound:=h.bound
 fresh:=h.fresh
 own:=h.own
 names:=fun id aa=>h.names id fun hx=>aa (hu id hx)
 glob:=h.glob
theorem Zvv {ops:Array Oper} {os:List CO} (h:Zpk ops os=true) :
  (∀ i,i<ops.size→∀ e∈WI ops i,e<i)∧(∀ i,i<ops.size→∀ j,j<i→j∈WI ops i∨Zug os j i=true) ∧
  (∀ i,i<ops.size→∀ j,j<i→Zji ops 6 i j=true∨Zui os j i=true) ∧
  (∀ (k:Nat) (o:CO),os[k]?=some o→∀ x∈ZL o.op,Vf x=true):=by
 unfold Zpk at h;simp only[Kf] at h;obtain⟨⟨⟨h1,h2⟩,h3⟩,h4⟩:=h;refine⟨fun i hi e he=>?_,fun i hi j hj=>?_,fun i hi j hj=>?_,fun k o ho x hx=>?_⟩
 ·have:=KT.1 (KT.1 h1 i (Lj.2 hi)) e he;simpa using this
 ·have:=KT.1 (KT.1 h2 i (Lj.2 hi)) j (Lj.2 hj);simpa using this
 ·have:=KT.1 h3 i (Lj.2 hi);have:=KT.1 this j (Lj.2 hj);simpa using this
 ·exact KT.1 (KT.1 h4 o (Kc ho)) x hx
theorem Zmw {ops:Array Oper} {i:Nat} {o:Oper} (ho:ops[i]?=some o) {k:Nat}:k∈WI ops i↔∃ e∈o.after,Region.binds .any e=true∧e.on=k:=by
 simp only[WI,ho,Ld,List.mem_filter,Array.mem_toList_iff];constructor
 ·rintro ⟨e,⟨h1,h2⟩,h3⟩;exact⟨e,h1,h2,h3⟩
 ·rintro ⟨e,h1,h2,h3⟩;exact⟨e,⟨h1,h2⟩,h3⟩
theorem Zmx {ops:Array Oper} {aa:Array Bool} (ab:∀ k,aa.getD k false=true→∀ e∈WI ops k,aa.getD e false=true):∀ (n:Nat) {i j:Nat},(∀ e∈WI ops i,aa.getD e false=true)→Zji ops n i j=true→aa.getD j false=true
 | 0,i,j,hd,h=>by
  simp only[Zji,KU,Ko] at h;exact hd j h
 | n+1,i,j,hd,h=>by
  simp only[Zji,KU,Lk,Ko,L6] at h;rcases h with h | ⟨z,hz,h⟩
  ·exact hd j h
  ·exact Zmx ab n (fun e he=>ab z (hd z hz) e he) h
theorem Zmy {os:List CO} {sl:Sl}:∀ {ps:List (Nat×Nat)},Jq os sl ps=true→∀ p∈ps,Zkl os sl p=true
 | [],_,p,hp=>by simp at hp
 | q :: ps,h,p,hp=>by
  simp only[Jq,Kf] at h;rcases Kd.1 hp with rfl | hp
  ·exact h.1
  ·exact Zmy h.2 p hp
theorem ZtW {sl sl' : Sl} (h:∀ t,gs sl t=gs sl' t) (d:Option Nat) (a b:COp):JB sl d a b=JB sl' d a b:=by
 have e:∀ x:Opd,evO sl x=evO sl' x:=fun x=>by cases x<;>simp only[evO];exact h _
 have f:∀ (id:Nat) (xs:List Opd),Xr sl id xs=Xr sl' id xs:=by
  intro id xs
  induction xs with
  | nil=>rfl
  | cons x xs ih=>simp only[Xr,e,ih]
 have g1:∀ xs:List Opd,okL sl xs=okL sl' xs:=by
  intro xs
  induction xs with
  | nil=>rfl
  | cons x xs ih=>simp only[okL,e,ih]
 have g2:∀ (zs:List Opd) (v:AV),Zdi sl zs v=Zdi sl' zs v:=by
  intro zs v;cases v<;>simp only[Zdi]
  exact f _ _
 have g3:∀ zs xs:List Opd,Zhe sl zs xs=Zhe sl' zs xs:=by
  intro zs xs
  induction xs with
  | nil=>rfl
  | cons x xs ih=>simp only[Zhe,e,ih,g2]
 have g4:okD sl d=okD sl' d:=by
  cases d<;>simp only[okD,h]
 cases ha:Vk a with
 | true=>cases a<;>first | (cases ha;done) | exact g4
 | false=>
  cases b with
  | store slc s x y=>
   have hx:∀ sl:Sl,JB sl d a (.store slc s x y)=ZfV sl a (Wc (evO sl x)):=fun sl=>by cases a<;>first | (cases ha;done) | rfl
   rw[hx,hx,e];cases Wc (evO sl' x)<;>simp only[ZfV]
   rw[f]
  | append sz by_ str flat x y=>
   have hx:∀ sl:Sl,JB sl d a (.append sz by_ str flat x y)=(Jp sl a (evO sl x)&&(flat || seenSrc sl a (evO sl y))):=fun sl=>by cases a<;>first | (cases ha;done) | rfl
   have q1:∀ v:AV,Jp sl a v=Jp sl' a v:=fun v=>by
    cases v<;>simp only[Jp]<;>first | exact f _ _ | skip
    case tup vs=>cases vs<;>rfl
   have q2:∀ v:AV,seenSrc sl a v=seenSrc sl' a v:=fun v=>by
    cases v<;>simp only[seenSrc]
    exact f _ _
   rw[hx,hx,e,e,q1,q2]
  | call g as=>
   have hx:∀ sl:Sl,JB sl d a (.call g as)=(okL sl (ZL a)&&(okD sl d&&(okL sl as&&Zhe sl (ZL a) as))):=fun sl=>by cases a<;>first | (cases ha;done) | rfl
   rw[hx,hx,g1,g4,g1,g3]
  | _=>cases a<;>first | (cases ha;done) | rfl
theorem Zzy {C:Orc} {M:Zp} (hC:QL P C) (hB:WC C) {ops:Array Oper} {os:List CO} (be:QG (ZmK P nt ops.toList) ops.toList=some os) (bt:Zpk ops os=true) {nx m:Nat} {r:Sl×Hp} (az:Jq os r.1 (Zdg ops os)=true) {Q:Exit→Act→World→Prop}
  {I:Nat→Prop} {w:World} (hQ:∀ a' w',Za1 nt F A Γ0 I w { sl:=r.1,hp:=r.2,nx:=nx+64*ops.size,m:=m } a' w'→Q .normal a' w') :
  ∀ (ai:Nat) (aa:Array Bool) (s:Sl×Hp) (I1:Nat→Prop) (Γ1:Gh) (a1:Act) (w1:World),aa.size=ops.size →
   (∀ k,aa.getD k false=true→∀ e∈WI ops k,aa.getD e false=true)→(rem ops.size aa).length≤ai →
   Sim nt F A I1 Γ1 (ZsD nx aa) s.1 s.2 a1 w1→Zf0 Γ0 Γ1 s.2→ZR I I1 w w1→(∀ b,I1 b→I b∨F b)→Fr F w w1→(a0:∀ k b,Γ0 k=some (.box b)→k<nx) →
   (∃ r',runL C M os nx (rem ops.size aa) s=some r'∧X0 r' r)→wpAny P .any ops Q ai aa a1 w1:=by
 obtain⟨bu,bv,bw,bx⟩:=Zvv bt;have done:∀ (aa:Array Bool) (s:Sl×Hp) (I1:Nat→Prop) (Γ1:Gh) (a1:Act) (w1:World),aa.size=ops.size→rem ops.size aa=[] →
   Sim nt F A I1 Γ1 (ZsD nx aa) s.1 s.2 a1 w1→Zf0 Γ0 Γ1 s.2→ZR I I1 w w1→(∀ b,I1 b→I b∨F b)→Fr F w w1→(∃ r',runL C M os nx (rem ops.size aa) s=some r'∧X0 r' r)→Q .normal a1 w1:=by
  intro aa s I1 Γ1 a1 w1 am af hS hc hk ag hf hr;obtain⟨r',aw,ax⟩:=hr;rw[af] at aw;simp only[runL] at aw;cases aw;refine hQ a1 w1 ⟨I1,Γ1,?_,hk,ag,hf,?_⟩
  ·intro k b ay;obtain⟨h1,cs,h2⟩:=hc k b ay;exact⟨h1,cs,by show lkp r.2 k=_;rw[← ax.2 k];exact h2⟩
  ·refine Zzx hS ax fun id hu=>?_;rcases hu with hu | ⟨k,a8,cb,cc⟩
   ·show id<nx+64*ops.size;omega
   ·have:=(Jm a8).1;show id<nx+64*ops.size;omega
 have ar:∀ (aa:Array Bool),aa.size=ops.size→Region.ready .any ops aa=[]→rem ops.size aa=[]:=by
  intro aa am hr;cases af:rem ops.size aa with
  | nil=>rfl
  | cons i l=>
   exfalso
   have hi:i∈rem ops.size aa:=by rw[af];simp
   obtain⟨ao,a9⟩:=Zh2.1 hi;have au:∀ j,j<i→aa.getD j false=true:=by
    intro j hj;have bz:j<ops.size:=by omega
    have ba:j∉rem ops.size aa:=by
     intro hm;have hp:=ZoK ops.size aa;rw[af] at hm hp;rcases Kd.1 hm with rfl | hm
     ·omega
     ·have:=(LS.1 hp).1 j hm;omega
    rw[Zh2] at ba;have b0:j<aa.size:=by omega
    simp only[bz,true_and] at ba;simp[b0] at ba ⊢;exact ba
   have bl:i∈Region.ready .any ops aa:=by
    refine mem_ready.2 ⟨a9,ops[i],by simp[ao],fun e he hb=>?_⟩;refine au _ (bu i ao e.on ?_);exact(Zmw (by simp[ao])).2 ⟨e,he,hb,rfl⟩
   rw[hr] at bl;cases bl
 intro ai
 induction ai with
 | zero=>
  intro aa s I1 Γ1 a1 w1 am bf b6 hS hc hk ag hf a0 hr;have af:rem ops.size aa=[]:=Ks (by omega);refine⟨?_,done aa s I1 Γ1 a1 w1 am af hS hc hk ag hf hr⟩;cases hrd:Region.ready .any ops aa with
  | nil=>rfl
  | cons i l=>
   have hi:i∈Region.ready .any ops aa:=by rw[hrd];simp
   obtain⟨h1,o,ho,_⟩:=mem_ready.1 hi;have:i∈rem ops.size aa:=Zh2.2 ⟨(KR.1 ho).1,h1⟩;rw[af] at this;cases this
 | succ ai ih=>
  intro aa s I1 Γ1 a1 w1 am bf b6 hS hc hk ag hf a0 hr;refine⟨fun h0=>done aa s I1 Γ1 a1 w1 am (ar aa am h0) hS hc hk ag hf hr,fun i hi=>?_⟩;obtain⟨a9,o,ho,bg⟩:=mem_ready.1 hi;have ao:i<ops.size:=(KR.1 ho).1;have av:∀ e∈WI ops i,aa.getD e false=true:=fun e he=>by
   obtain⟨e',h1,h2,rfl⟩:=(Zmw ho).1 he;exact bg e' h1 h2
  have a2:i∈rem ops.size aa:=Zh2.2 ⟨ao,a9⟩;obtain⟨js,ks,ab⟩:=List.append_of_mem a2;have ae:=ZoK ops.size aa;rw[ab] at ae;have bm:(rem ops.size aa).Nodup:=List.Pairwise.filter _ List.nodup_range;rw[ab] at bm;have bh:∀ j∈js,j<i∧aa.getD j true=false:=fun j hj=>by
   refine⟨(LI.1 ae).2.2 j hj i (by simp),?_⟩;have:j∈rem ops.size aa:=by rw[ab];simp[hj]
   exact(Zh2.1 this).2
  have ad:∀ j,aa.getD j true=false→aa.getD j false≠true:=fun j h1 h2=>by rw[(Jm h2).2] at h1;cases h1
  have b7:os.length=ops.size:=by rw[ZdV be];simp
  obtain⟨co,ah,b8⟩:=ZoE be i o (by simpa using ho);obtain⟨hg,b9,a3,b'⟩:=Zjr b8;obtain⟨r',aw,ax⟩:=hr;rw[ab] at aw;have an:i∉js:=fun hm=>by have:=(bh i hm).1;omega
  have ap:=ZoL (nx:=nx) a9;obtain⟨s',al,r2,bn,bo⟩:=Zyz hC be ah bx js ⟨F,A,I1,Γ1,a1,w1,hS⟩ ap (fun j hj=>ZoL (bh j hj).2)
   ae (fun j hj=>by
    obtain⟨h1,h2⟩:=bh j hj;have bi:∃ oj,os[j]?=some oj∧XF oj co=true:=by
     rcases bv i ao j h1 with h3 | h3
     ·exact absurd (av j h3) (ad j h2)
     ·unfold Zug at h3;rw[ah] at h3;split at h3
      ·rename_i x y h4 h5;cases h5;exact⟨x,h4,h3⟩
      ·cases h3
    obtain⟨oj,aj,bi⟩:=bi;refine⟨oj,aj,bi,?_⟩;have bp:Zji ops 6 i j=false:=by
     cases htd:Zji ops 6 i j with
     | false=>rfl
     | true=>exact absurd (Zmx bf 6 av htd) (ad j h2)
    have seen:∀ p,ZfU os j i=some p→∃ x y,os[p.1]?=some x∧os[p.2]?=some y∧JB r'.1 x.dst x.op y.op=true:=by
     intro p hp;have bj:p∈Zdg ops os:=by
      simp only[Zdg,Ky,Lj];refine⟨i,ao,j,h1,?_⟩;rw[bp,hp];simp[optP]
     have bc:=Zmy az _ bj;unfold Zkl at bc;split at bc
     ·rename_i x y e1 e2;exact⟨x,y,e1,e2,by rw[ZtW ax.1];exact bc⟩
     ·cases bc
    have cd:Z0 os j=CO.starts oj:=by simp only[Z0,aj]
    have cf:Z0 os i=CO.starts co:=by simp only[Z0,ah]
    rcases bw i ao j h1 with h3 | h3
    ·rw[bp] at h3;cases h3
    ·unfold Zui at h3;rw[aj,ah] at h3;simp only at h3;cases hj' : Z0 os j with
     | true=>
      rw[hj'] at h3;simp only[Km,ZBe,Zkk,Lk,Kf,K4] at h3;obtain⟨g1,⟨g2,g3⟩ | ⟨⟨⟨⟨g0,g2⟩,g3⟩,g4,g5⟩,g6⟩⟩:=h3
      ·obtain⟨x,y,e1,e2,e3⟩:=seen (i,j) (by unfold ZfU;rw[aj,ah];simp[hj',g2]);simp only at e1 e2;rw[ah] at e1;cases e1;refine .inr (.inl ⟨rfl,g1,g2,g3,?_⟩);cases hx:co.op<;>rw[hx] at g2 e3<;>first | (cases g2;done) | exact e3
      ·obtain⟨x,y,e1,e2,e3⟩:=seen (i,j) (by unfold ZfU;rw[aj,ah];simp[hj',g2]);simp only at e1 e2;rw[ah] at e1;cases e1;rw[aj] at e2;cases e2;exact .inr (.inr ⟨rfl,g1,g0,g2,g3,g4,g5,g6,e3⟩)
     | false=>
      rw[hj'] at h3;simp only[Ka,Kq,ZBd,Zkk,Lk,Kf,K4] at h3;refine .inl ⟨rfl,fun bd=>?_⟩;rcases h3 with h3 | ((h3 | ⟨h4,h5⟩) | ⟨h3,h4⟩) | ⟨⟨⟨⟨g0,g2⟩,g3⟩,g4,g5⟩,g6⟩
      ·rw[bd] at h3;cases h3
      ·exact .inl h3
      ·cases hcm:ZxF co.op with
       | true=>exact .inl rfl
       | false=>
        refine .inr (.inl ⟨h4,?_⟩);cases hhf:WX oj.op with
        | true=>exact .inl rfl
        | false=>
         rcases h5 with h5 | h5
         ·rw[hhf] at h5;cases h5
         ·refine .inr ⟨h5.1.2,h5.2.1,h5.2.2,?_⟩;obtain⟨x,y,e1,e2,e3⟩:=seen (j,i) (by unfold ZfU;rw[aj,ah];simp[hj',bd,h4,hhf]);simp only at e1 e2;rw[aj] at e1;cases e1;rw[ah] at e2;cases e2;have bq:=h5.1.1;cases hy:co.op<;>rw[hy] at h4 e3<;>first | (cases h4;done) | (cases hx:oj.op<;>rw[hx] at bq e3<;>first | (cases bq;done) | exact e3)
      ·cases hng:ZfT co.op with
       | true=>exact .inr (.inr (.inl ⟨h3,rfl⟩))
       | false=>
        rcases h4 with h4 | h4
        ·rw[hng] at h4;cases h4
        ·cases bk:Zph co.op with
         | true=>
          have:WX oj.op=true:=by cases hx:oj.op<;>rw[hx] at h3<;>first | (cases h3;done) | rfl
          exact .inr (.inl ⟨rfl,.inl this⟩)
         | false=>
          obtain⟨x,y,e1,e2,e3⟩:=seen (j,i) (by unfold ZfU;rw[aj,ah];simp[hj',bd,h3,hng,bk]);simp only at e1 e2;rw[aj] at e1;cases e1;refine .inr (.inr (.inr (.inl ⟨h3,h4,?_⟩)));cases hx:oj.op<;>rw[hx] at h3 e3<;>first | (cases h3;done) | exact e3
      ·have bk:Zph co.op=false:=by cases hy:co.op<;>rw[hy] at g2<;>first | (cases g2;done) | rfl
       obtain⟨x,y,e1,e2,e3⟩:=seen (j,i) (by unfold ZfU;rw[aj,ah];simp[hj',bd,g2,g0,bk]);simp only at e1 e2;rw[aj] at e1;cases e1;rw[ah] at e2;cases e2;exact .inr (.inr (.inr (.inr ⟨g0,g2,g3,g4,g5,g6,e3⟩))))
   (fun j hj=>by
    have:j∈rem ops.size aa:=by rw[ab];exact hj
    rw[b7];exact(Zh2.1 this).1) aw
  have ak : rem ops.size (aa.setIfInBounds i true)=js++ks:=by
   rw[ZCg am,ab,List.filter_append,List.filter_cons];simp only[bne_self_eq_false,Ka,Kq];have ca:i∉ks:=by
    have:=(List.nodup_append.1 bm).2.1;exact(Kaa.1 this).1
   rw[List.filter_eq_self.2,List.filter_eq_self.2]
   ·intro x hx;simp;exact fun e=>ca (e ▸ hx)
   ·intro x hx;simp;exact fun e=>an (e ▸ hx)
  have aq : (rem ops.size (aa.setIfInBounds i true)).length≤ai:=by
   rw[ak];have:(rem ops.size aa).length=js.length+ks.length+1:=by rw[ab];simp;omega
   simp;omega
  have a4 : ∀ k,(aa.setIfInBounds i true).getD k false=true→∀ e∈WI ops k,(aa.setIfInBounds i true).getD e false=true:=by
   intro k a8 e he;by_cases br:i=k
   ·subst br;exact getD_set_true (av e he)
   ·rw[getD_set_ne false br] at a8;exact getD_set_true (bf k a8 e he)
  have a5:i<aa.size:=by omega
  unfold wpOp;rw[ho];simp only;unfold ZJ at al;rw[ah,Zg] at al;unfold ZO at al;obtain⟨b,hw,al⟩:=Za al;rw[Zv2 hS hg hw];rw[b'] at al;cases b with
  | true=>
   simp only[Km] at al ⊢;obtain⟨ce,bs,a6,rfl⟩:=Q7 al;refine .inl (Zw1 hC hS b9 ap a3 a6 (ZbL bs) _ _ fun u w' hp'=>?_);obtain⟨I2,Γ2,b1,b2,b3,b4,b5⟩:=hp';have a7:=(ZfZ hB (ZbL bs)).keeps a6 o.dst s.1;refine ih _ _ I2 Γ2 _ _ (by simpa using am) a4 aq (b5.more (ZoM a5)) ?_ (hk.trans b2) (fun x hx=>?_) (hf.trans b4) a0 ⟨r2,by rw[ak];exact bn,bo.trans ax⟩
   ·intro k bb ay;obtain⟨c1,cs,c2⟩:=hc k bb ay;exact⟨b1 k bb c1,a7 k cs (by have:=a0 k bb ay;omega) c2⟩
   ·rcases b3 x hx with h | h
    ·exact ag x h
    ·exact .inr h
  | false=>
   simp only[Ka,Kq] at al ⊢;cases al;obtain⟨I2,Γ2,b1,b2,b3,b4,b5⟩:=hS.pure (U':=ZsD nx (aa.setIfInBounds i true)) (v:=.tup []) (u:=undef) (dst:=o.dst) (fun id hu=>ZoM a5 id (.inl hu)) ZlB a3;refine ih _ _ I2 Γ2 _ _ (by simpa using am) a4 aq b5 ?_ (hk.trans b2) (fun x hx=>?_) (hf.trans b4) a0 ⟨r2,by rw[ak];exact bn,bo.trans ax⟩
   ·intro k bb ay;obtain⟨c1,cs,c2⟩:=hc k bb ay;exact⟨b1 k bb c1,cs,c2⟩
   ·rcases b3 x hx with h | h
    ·exact ag x h
    ·exact .inr h
theorem ZAW {I:Nat→Prop} {Γ:Gh} {U:Nat→Prop} {sl:Sl} {hp:Hp} {a:Act} {w:World} (h:Sim nt F A I Γ U sl hp a w):Sim nt F A I Γ U sl hp a w.drew where
 nt:=h.nt
 dfr:=h.dfr
 slots:=fun t=>(h.slots t).mono (Q9.refl Γ) (⟨fun _ h=>h,fun _ _=>rfl⟩:ZR I I w w.drew)
 objs:=fun id o hl=>(h.objs id o hl).mono (Q9.refl Γ) (⟨fun _ h=>h,fun _ _=>rfl⟩:ZR I I w w.drew) fun _ _=>⟨rfl,fun h=>h⟩
 inj:=h.inj
 bound:=h.bound
 fresh:=h.fresh
 own:=h.own
 names:=h.names
 glob:=h.glob
theorem ZoN {C:Orc} {M:Zp} (hm:P.follows .mixedOrders=true) (hC:QL P C) (hB:WC C):Uk P C M nt:=by
 intro F A Γ0 ops os nx m sl hp r I Γ a w Q id ad ae hv aa hS hc hQ;refine wp_region_any hm ?_;have af:os.length=ops.size:=by rw[ZdV ad];simp
 rw[Zi8 C M os nx os 0 false sl hp rfl] at hv;have ab:rem ops.size (Array.replicate ops.size false)=List.range ops.size:=by
  simp only[rem];refine List.filter_eq_self.2 fun i hi=>?_;have:=Lj.1 hi;simp[this]
 show wpAny P .any ops Q ops.size (Array.replicate ops.size false) a w.drew;refine Zzy (M:=M) (Γ0:=Γ0) (F:=F) (A:=A) (m:=m) (I:=I) (w:=w) hC hB ad ae aa hQ ops.size _ (sl,hp) I Γ a w.drew (by simp) ?_ (by rw[ab];simp) ?_ hc ⟨fun _ h=>h,fun _ _=>rfl⟩ (fun _ h=>.inl h) ⟨rfl,rfl,rfl,Kt _,fun _ _ _=>rfl⟩ ?_ ⟨r,?_,X0.refl r⟩
 ·intro k hk;exfalso
  have h1:=(Jm hk).1;simp at h1;simp[h1] at hk
 ·exact(ZAW hS).more fun id hu=>.inl hu
 ·intro k b ag;obtain⟨h1,cs,h2⟩:=hc k b ag;exact hS.id_in h2
 ·rw[ab,List.range_eq_range',← af];exact hv
end
theorem ZtX {P:Program} {X:Fns} {M:Zp} (hm:P.follows .mixedOrders=true) (hX:Zf2 P X M):QL P (Ze X M):=
 ZmN hX fun _ _ hC hB=>ZoN hm hC hB
end Go.Abs
