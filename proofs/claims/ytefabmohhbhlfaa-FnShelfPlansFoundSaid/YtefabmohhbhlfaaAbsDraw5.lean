/- Own text. -/
import Derived.Test.YtefabmohhbhlfaaAbsDraw4
set_option linter.unusedVariables false
set_option linter.unusedSimpArgs false
namespace Go.Abs
open Go
section
variable {P:Program} {nt:Nat} {F A:Nat→Prop} {Γ0:Gh}
theorem Zpi {I:Nat→Prop} {Γ:Gh} {U U' : Nat→Prop} {s r:Sl×Hp} {a:Act} {w:World} (h:Sim nt F A I Γ U s.1 s.2 a w) (hs:QV s r) (hu:∀ id,U id→U' id):Sim nt F A I Γ U' r.1 r.2 a w where
 nt:=h.nt
 dfr:=h.dfr
 slots:=fun t=>by rw[← hs.1 t];exact h.slots t
 objs:=fun id o hl=>h.objs id o (by rw[hs.2 id];exact hl)
 inj:=fun i j o o' b hi hj=>h.inj i j o o' b (by rw[hs.2 i];exact hi) (by rw[hs.2 j];exact hj)
 bound:=h.bound
 fresh:=h.fresh
 own:=h.own
 names:=fun id aa=>h.names id fun hx=>aa (hu id hx)
 glob:=h.glob
theorem ZlM {ops:Array Oper} {os:List CO} (h:Zhm ops os=true) :
  (∀ i,i<ops.size→∀ e∈Yv ops i,e<i)∧(∀ i,i<ops.size→∀ j,j<i→j∈Yv ops i∨ZkS os j i=true) ∧
  (∀ i,i<ops.size→∀ j,j<i→Zbn ops 6 i j=true∨ZkU os j i=true) ∧
  (∀ (k:Nat) (o:CO),os[k]?=some o→∀ x∈Zt o.op,XI x=true):=by
 unfold Zhm at h;simp only[Kb] at h;obtain⟨⟨⟨h1,h2⟩,h3⟩,h4⟩:=h;refine⟨fun i hi e he=>?_,fun i hi j hj=>?_,fun i hi j hj=>?_,fun k o ho x hx=>?_⟩
 ·have:=KK.1 (KK.1 h1 i (Ln.2 hi)) e he;simpa using this
 ·have:=KK.1 (KK.1 h2 i (Ln.2 hi)) j (Ln.2 hj);simpa using this
 ·have:=KK.1 h3 i (Ln.2 hi);have:=KK.1 this j (Ln.2 hj);simpa using this
 ·exact KK.1 (KK.1 h4 o (Ke ho)) x hx
theorem Zfa {ops:Array Oper} {i:Nat} {o:Oper} (ho:ops[i]?=some o) {k:Nat}:k∈Yv ops i↔∃ e∈o.after,Region.binds .any e=true∧e.on=k:=by
 simp only[Yv,ho,KV,Le,Array.mem_toList_iff];constructor
 ·rintro ⟨e,⟨h1,h2⟩,h3⟩;exact⟨e,h1,h2,h3⟩
 ·rintro ⟨e,h1,h2,h3⟩;exact⟨e,⟨h1,h2⟩,h3⟩
theorem Zfb {ops:Array Oper} {aa:Array Bool} (ab:∀ k,aa.getD k false=true→∀ e∈Yv ops k,aa.getD e false=true):∀ (n:Nat) {i j:Nat},(∀ e∈Yv ops i,aa.getD e false=true)→Zbn ops n i j=true→aa.getD j false=true
 | 0,i,j,hd,h=>by
  simp only[Zbn,KM,Kl] at h;exact hd j h
 | n+1,i,j,hd,h=>by
  simp only[Zbn,KM,Lg,Kl,Lr] at h;rcases h with h | ⟨z,hz,h⟩
  ·exact hd j h
  ·exact Zfb ab n (fun e he=>ab z (hd z hz) e he) h
theorem Zfc {os:List CO} {sl:Sl}:∀ {ps:List (Nat×Nat)},Yy os sl ps=true→∀ p∈ps,ZdB os sl p=true
 | [],_,p,hp=>by simp at hp
 | q :: ps,h,p,hp=>by
  simp only[Yy,Kb] at h;rcases Kf.1 hp with rfl | hp
  ·exact h.1
  ·exact Zfc h.2 p hp
theorem Zkx {sl sl' : Sl} (h:∀ t,gs sl t=gs sl' t) (d:Option Nat) (a b:COp):VA sl d a b=VA sl' d a b:=by
 have e:∀ x:Opd,evO sl x=evO sl' x:=fun x=>by cases x<;>simp only[evO];exact h _
 have f:∀ (id:Nat) (xs:List Opd),Qo sl id xs=Qo sl' id xs:=by
  intro id xs
  induction xs with
  | nil=>rfl
  | cons x xs ih=>simp only[Qo,e,ih]
 have g1:∀ xs:List Opd,okL sl xs=okL sl' xs:=by
  intro xs
  induction xs with
  | nil=>rfl
  | cons x xs ih=>simp only[okL,e,ih]
 have g2:∀ (zs:List Opd) (v:AV),UV sl zs v=UV sl' zs v:=by
  intro zs v;cases v<;>simp only[UV]
  exact f _ _
 have g3:∀ zs xs:List Opd,Zbo sl zs xs=Zbo sl' zs xs:=by
  intro zs xs
  induction xs with
  | nil=>rfl
  | cons x xs ih=>simp only[Zbo,e,ih,g2]
 have g4:okD sl d=okD sl' d:=by
  cases d<;>simp only[okD,h]
 cases ha:XL a with
 | true=>cases a<;>first | (cases ha;done) | exact g4
 | false=>
  cases b with
  | store slc s x y=>
   have hx:∀ sl:Sl,VA sl d a (.store slc s x y)=(ZaA sl a (X8 (evO sl x))&&Ym sl a (evO sl x) (evO sl y)):=fun sl=>by cases a<;>first | (cases ha;done) | rfl
   have q0:∀ ks:List Nat,Q3 sl (Zt a) ks=Q3 sl' (Zt a) ks:=fun ks=>by
    induction ks with
    | nil=>rfl
    | cons k r ih=>simp only[Q3,f,ih]
   have q1:∀ u v:AV,Ym sl a u v=Ym sl' a u v:=fun u v=>by unfold Ym;split<;>first | rfl | rw[q0]
   rw[hx,hx,e,e,q1];cases X8 (evO sl' x)<;>simp only[ZaA]
   rw[f]
  | append sz by_ str flat x y=>
   have hx:∀ sl:Sl,VA sl d a (.append sz by_ str flat x y)=(Wd sl a (evO sl x)&&(flat || seenSrc sl a (evO sl y))):=fun sl=>by cases a<;>first | (cases ha;done) | rfl
   have q1:∀ v:AV,Wd sl a v=Wd sl' a v:=fun v=>by
    cases v<;>simp only[Wd]<;>first | exact f _ _ | skip
    case tup vs=>cases vs<;>rfl
   have q2:∀ v:AV,seenSrc sl a v=seenSrc sl' a v:=fun v=>by
    cases v<;>simp only[seenSrc]
    exact f _ _
   rw[hx,hx,e,e,q1,q2]
  | call g as=>
   have hx:∀ sl:Sl,VA sl d a (.call g as)=(okL sl (Zt a)&&(okD sl d&&(okL sl as&&Zbo sl (Zt a) as))):=fun sl=>by cases a<;>first | (cases ha;done) | rfl
   rw[hx,hx,g1,g4,g1,g3]
  | _=>cases a<;>first | (cases ha;done) | rfl
theorem Zpj {C:Orc} {M:Zg} (hM:∀ f,M f 99=false) (hC:Qh P C) {ops:Array Oper} {os:List CO} (a9:Qb (Zfq P nt ops.toList) ops.toList=some os) (bo:Zhm ops os=true) {nx m:Nat} {r:Sl×Hp} (ax:Yy os r.1 (WF ops os)=true) {Q:Exit→Act→World→Prop}
  {I:Nat→Prop} {w:World} (hQ:∀ a' w',Wg nt F A Γ0 I w { sl:=r.1,hp:=r.2,nx:=nx+64*ops.size,m:=m } a' w'→Q .normal a' w') :
  ∀ (ai:Nat) (aa:Array Bool) (s:Sl×Hp) (I1:Nat→Prop) (Γ1:Gh) (a1:Act) (w1:World),aa.size=ops.size →
   (∀ k,aa.getD k false=true→∀ e∈Yv ops k,aa.getD e false=true)→(rem ops.size aa).length≤ai →
   Sim nt F A I1 Γ1 (Zjq nx aa) s.1 s.2 a1 w1→ZaH Γ0 Γ1 s.2→ZB I I1 w w1→(∀ b,I1 b→I b∨F b)→Fr F w w1 →
   (∃ r',Zai C M os nx (rem ops.size aa) s=some r'∧QV r' r)→wpAny P .any ops Q ai aa a1 w1:=by
 obtain⟨bp,bq,br,bs⟩:=ZlM bo;have done:∀ (aa:Array Bool) (s:Sl×Hp) (I1:Nat→Prop) (Γ1:Gh) (a1:Act) (w1:World),aa.size=ops.size→rem ops.size aa=[] →
   Sim nt F A I1 Γ1 (Zjq nx aa) s.1 s.2 a1 w1→ZaH Γ0 Γ1 s.2→ZB I I1 w w1→(∀ b,I1 b→I b∨F b)→Fr F w w1→(∃ r',Zai C M os nx (rem ops.size aa) s=some r'∧QV r' r)→Q .normal a1 w1:=by
  intro aa s I1 Γ1 a1 w1 am af hS hc hk ag hf hr;obtain⟨r',aw,ay⟩:=hr;rw[af] at aw;simp only[Zai] at aw;cases aw;refine hQ a1 w1 ⟨I1,Γ1,hc,hk,ag,hf,?_⟩
  ·refine Zpi hS ay fun id hu=>?_;rcases hu with hu | ⟨k,a4,b8,b9⟩
   ·show id<nx+64*ops.size;omega
   ·have:=(Vx a4).1;show id<nx+64*ops.size;omega
 have ar:∀ (aa:Array Bool),aa.size=ops.size→Region.ready .any ops aa=[]→rem ops.size aa=[]:=by
  intro aa am hr;cases af:rem ops.size aa with
  | nil=>rfl
  | cons i l=>
   exfalso
   have hi:i∈rem ops.size aa:=by rw[af];simp
   obtain⟨ao,a5⟩:=ZbS.1 hi;have au:∀ j,j<i→aa.getD j false=true:=by
    intro j hj;have bt:j<ops.size:=by omega
    have a6:j∉rem ops.size aa:=by
     intro hm;have hp:=ZgK ops.size aa;rw[af] at hm hp;rcases Kf.1 hm with rfl | hm
     ·omega
     ·have:=(K7.1 hp).1 j hm;omega
    rw[ZbS] at a6;have bu:j<aa.size:=by omega
    simp only[bt,true_and] at a6;simp[bu] at a6 ⊢;exact a6
   have bh:i∈Region.ready .any ops aa:=by
    refine mem_ready.2 ⟨a5,ops[i],by simp[ao],fun e he hb=>?_⟩;refine au _ (bp i ao e.on ?_);exact(Zfa (by simp[ao])).2 ⟨e,he,hb,rfl⟩
   rw[hr] at bh;cases bh
 intro ai
 induction ai with
 | zero=>
  intro aa s I1 Γ1 a1 w1 am ba bv hS hc hk ag hf hr;have af:rem ops.size aa=[]:=Km (by omega);refine⟨?_,done aa s I1 Γ1 a1 w1 am af hS hc hk ag hf hr⟩;cases hrd:Region.ready .any ops aa with
  | nil=>rfl
  | cons i l=>
   have hi:i∈Region.ready .any ops aa:=by rw[hrd];simp
   obtain⟨h1,o,ho,_⟩:=mem_ready.1 hi;have:i∈rem ops.size aa:=ZbS.2 ⟨(KF.1 ho).1,h1⟩;rw[af] at this;cases this
 | succ ai ih=>
  intro aa s I1 Γ1 a1 w1 am ba bv hS hc hk ag hf hr;refine⟨fun h0=>done aa s I1 Γ1 a1 w1 am (ar aa am h0) hS hc hk ag hf hr,fun i hi=>?_⟩;obtain⟨a5,o,ho,bb⟩:=mem_ready.1 hi;have ao:i<ops.size:=(KF.1 ho).1;have av:∀ e∈Yv ops i,aa.getD e false=true:=fun e he=>by
   obtain⟨e',h1,h2,rfl⟩:=(Zfa ho).1 he;exact bb e' h1 h2
  have az:i∈rem ops.size aa:=ZbS.2 ⟨ao,a5⟩;obtain⟨js,ks,ab⟩:=List.append_of_mem az;have ae:=ZgK ops.size aa;rw[ab] at ae;have bi:(rem ops.size aa).Nodup:=List.Pairwise.filter _ L5;rw[ab] at bi;have bc:∀ j∈js,j<i∧aa.getD j true=false:=fun j hj=>by
   refine⟨(K5.1 ae).2.2 j hj i (by simp),?_⟩;have:j∈rem ops.size aa:=by rw[ab];simp[hj]
   exact(ZbS.1 this).2
  have ad:∀ j,aa.getD j true=false→aa.getD j false≠true:=fun j h1 h2=>by rw[(Vx h2).2] at h1;cases h1
  have bw:os.length=ops.size:=by rw[Jm a9];simp
  obtain⟨co,ah,bx⟩:=Zdc a9 i o (by simpa using ho);obtain⟨hg,bz,a0,b0⟩:=ZaI bx;obtain⟨r',aw,ay⟩:=hr;rw[ab] at aw;have an:i∉js:=fun hm=>by have:=(bc i hm).1;omega
  have ap:=ZgL (nx:=nx) a5;obtain⟨s',al,r2,bj,bk⟩:=Zoj hM hC a9 ah bs js ⟨F,A,I1,Γ1,a1,w1,hS⟩ ap (fun j hj=>ZgL (bc j hj).2)
   ae (fun j hj=>by
    obtain⟨h1,h2⟩:=bc j hj;have bd:∃ oj,os[j]?=some oj∧QL oj co=true:=by
     rcases bq i ao j h1 with h3 | h3
     ·exact absurd (av j h3) (ad j h2)
     ·unfold ZkS at h3;rw[ah] at h3;split at h3
      ·rename_i x y h4 h5;cases h5;exact⟨x,h4,h3⟩
      ·cases h3
    obtain⟨oj,aj,bd⟩:=bd;refine⟨oj,aj,bd,?_⟩;have bl:Zbn ops 6 i j=false:=by
     cases htd:Zbn ops 6 i j with
     | false=>rfl
     | true=>exact absurd (Zfb ba 6 av htd) (ad j h2)
    have seen:∀ p,Zaz os j i=some p→∃ x y,os[p.1]?=some x∧os[p.2]?=some y∧VA r'.1 x.dst x.op y.op=true:=by
     intro p hp;have be:p∈WF ops os:=by
      simp only[WF,Ks,Ln];refine⟨i,ao,j,h1,?_⟩;rw[bl,hp];simp[optP]
     have a7:=Zfc ax _ be;unfold ZdB at a7;split at a7
     ·rename_i x y e1 e2;exact⟨x,y,e1,e2,by rw[Zkx ay.1];exact a7⟩
     ·cases a7
    have b':ZI os j=CO.starts oj:=by simp only[ZI,aj]
    have ca:ZI os i=CO.starts co:=by simp only[ZI,ah]
    rcases br i ao j h1 with h3 | h3
    ·rw[bl] at h3;cases h3
    ·unfold ZkU at h3;rw[aj,ah] at h3;simp only at h3;cases hj' : ZI os j with
     | true=>
      rw[hj'] at h3;simp only[Kk,ZqQ,ZdA,Lg,Kb,KO] at h3;obtain⟨g1,⟨g2,g3⟩ | ⟨⟨⟨⟨g0,g2⟩,g3⟩,g4,g5⟩,g6⟩⟩:=h3
      ·obtain⟨x,y,e1,e2,e3⟩:=seen (i,j) (by unfold Zaz;rw[aj,ah];simp[hj',g2]);simp only at e1 e2;rw[ah] at e1;cases e1;refine .inr (.inl ⟨rfl,g1,g2,g3,?_⟩);cases hx:co.op<;>rw[hx] at g2 e3<;>first | (cases g2;done) | exact e3
      ·obtain⟨x,y,e1,e2,e3⟩:=seen (i,j) (by unfold Zaz;rw[aj,ah];simp[hj',g2]);simp only at e1 e2;rw[ah] at e1;cases e1;rw[aj] at e2;cases e2;exact .inr (.inr ⟨rfl,g1,g0,g2,g3,g4,g5,g6,e3⟩)
     | false=>
      rw[hj'] at h3;simp only[Ka,Ki,ZqP,ZdA,Lg,Kb,KO] at h3;refine .inl ⟨rfl,fun a8=>?_⟩;rcases h3 with h3 | ((h3 | ⟨h4,h5⟩) | ⟨h3,h4⟩) | ⟨⟨⟨⟨g0,g2⟩,g3⟩,g4,g5⟩,g6⟩
      ·rw[a8] at h3;cases h3
      ·exact .inl h3
      ·cases hcm:Znx co.op with
       | true=>exact .inl rfl
       | false=>
        refine .inr (.inl ⟨h4,?_⟩);cases hhf:YK oj.op with
        | true=>exact .inl rfl
        | false=>
         rcases h5 with h5 | h5
         ·rw[hhf] at h5;cases h5
         ·refine .inr ⟨h5.1.2,h5.2.1,h5.2.2,?_⟩;obtain⟨x,y,e1,e2,e3⟩:=seen (j,i) (by unfold Zaz;rw[aj,ah];simp[hj',a8,h4,hhf]);simp only at e1 e2;rw[aj] at e1;cases e1;rw[ah] at e2;cases e2;have bm:=h5.1.1;cases hy:co.op<;>rw[hy] at h4 e3<;>first | (cases h4;done) | (cases hx:oj.op<;>rw[hx] at bm e3<;>first | (cases bm;done) | exact e3)
      ·cases hng:Zay co.op with
       | true=>exact .inr (.inr (.inl ⟨h3,rfl⟩))
       | false=>
        rcases h4 with h4 | h4
        ·rw[hng] at h4;cases h4
        ·cases bf:Zhj co.op with
         | true=>
          have:YK oj.op=true:=by cases hx:oj.op<;>rw[hx] at h3<;>first | (cases h3;done) | rfl
          exact .inr (.inl ⟨rfl,.inl this⟩)
         | false=>
          obtain⟨x,y,e1,e2,e3⟩:=seen (j,i) (by unfold Zaz;rw[aj,ah];simp[hj',a8,h3,hng,bf]);simp only at e1 e2;rw[aj] at e1;cases e1;refine .inr (.inr (.inr (.inl ⟨h3,h4,?_⟩)));cases hx:oj.op<;>rw[hx] at h3 e3<;>first | (cases h3;done) | exact e3
      ·have bf:Zhj co.op=false:=by cases hy:co.op<;>rw[hy] at g2<;>first | (cases g2;done) | rfl
       obtain⟨x,y,e1,e2,e3⟩:=seen (j,i) (by unfold Zaz;rw[aj,ah];simp[hj',a8,g2,g0,bf]);simp only at e1 e2;rw[aj] at e1;cases e1;rw[ah] at e2;cases e2;exact .inr (.inr (.inr (.inr ⟨g0,g2,g3,g4,g5,g6,e3⟩))))
   (fun j hj=>by
    have:j∈rem ops.size aa:=by rw[ab];exact hj
    rw[bw];exact(ZbS.1 this).1) aw
  have ak : rem ops.size (aa.setIfInBounds i true)=js++ks:=by
   rw[ZrM am,ab,Kab,LS];simp only[bne_self_eq_false,Ka,Ki];have b6:i∉ks:=by
    have:=(LJ.1 bi).2.1;exact(Ld.1 this).1
   rw[LQ.2,LQ.2]
   ·intro x hx;simp;exact fun e=>b6 (e ▸ hx)
   ·intro x hx;simp;exact fun e=>an (e ▸ hx)
  have aq : (rem ops.size (aa.setIfInBounds i true)).length≤ai:=by
   rw[ak];have:(rem ops.size aa).length=js.length+ks.length+1:=by rw[ab];simp;omega
   simp;omega
  have a2 : ∀ k,(aa.setIfInBounds i true).getD k false=true→∀ e∈Yv ops k,(aa.setIfInBounds i true).getD e false=true:=by
   intro k a4 e he;by_cases bn:i=k
   ·subst bn;exact getD_set_true (av e he)
   ·rw[getD_set_ne false bn] at a4;exact getD_set_true (ba k a4 e he)
  have a3:i<aa.size:=by omega
  unfold wpOp;rw[ho];simp only;unfold Zv at al;rw[ah,Zc] at al;unfold ZA at al;obtain⟨b,hw,al⟩:=Za al;rw[Zml hS hg hw];rw[b0] at al;cases b with
  | true=>
   simp only[Kk] at al ⊢;obtain⟨ce,b7,bg,rfl⟩:=QI al;refine .inl (ZmY hC hS bz ap a0 bg (J4 b7) _ _ fun u w' hp'=>?_);obtain⟨I2,Γ2,b1,b2,b3,b4,b5⟩:=hp';refine ih _ _ I2 Γ2 _ _ (by simpa using am) a2 aq (b5.more (ZgM a3)) (X9.cpre (hp:=s.2) b1 hc) (hk.trans b2) (fun x hx=>?_) (hf.trans b4) ⟨r2,by rw[ak];exact bj,bk.trans ay⟩
   ·rcases b3 x hx with h | h
    ·exact ag x h
    ·exact .inr h
  | false=>
   simp only[Ka,Ki] at al ⊢;cases al;obtain⟨I2,Γ2,b1,b2,b3,b4,b5⟩:=hS.pure (U':=Zjq nx (aa.setIfInBounds i true)) (v:=.tup []) (u:=undef) (dst:=o.dst) (fun id hu=>ZgM a3 id (.inl hu)) ZeL a0;refine ih _ _ I2 Γ2 _ _ (by simpa using am) a2 aq b5 (X9.cpre (hp:=s.2) b1 hc) (hk.trans b2) (fun x hx=>?_) (hf.trans b4) ⟨r2,by rw[ak];exact bj,bk.trans ay⟩
   ·rcases b3 x hx with h | h
    ·exact ag x h
    ·exact .inr h
theorem Zqu {I:Nat→Prop} {Γ:Gh} {U:Nat→Prop} {sl:Sl} {hp:Hp} {a:Act} {w:World} (h:Sim nt F A I Γ U sl hp a w):Sim nt F A I Γ U sl hp a w.drew where
 nt:=h.nt
 dfr:=h.dfr
 slots:=fun t=>(h.slots t).mono (ZY.refl Γ) (⟨fun _ h=>h,fun _ _=>rfl⟩:ZB I I w w.drew)
 objs:=fun id o hl=>(h.objs id o hl).mono (ZY.refl Γ) (⟨fun _ h=>h,fun _ _=>rfl⟩:ZB I I w w.drew) fun _ _=>⟨rfl,fun h=>h⟩
 inj:=fun i j o o' b hi hj aa ab=>h.inj i j o o' b hi hj (aa.back (h.objs i o hi) rfl fun _ _=>rfl) (ab.back (h.objs j o' hj) rfl fun _ _=>rfl)
 bound:=h.bound
 fresh:=h.fresh
 own:=h.own
 names:=h.names
 glob:=h.glob
theorem ZbT (a:Act) (d:Option Nat) (u:Value):J3 (Zhr d []) a (a.put d u):=J3.step (l:=[]) (fun _ _=>rfl)
theorem ZrN {P:Program} {o:Oper} {a:Act} {w:World} {K K' : Act→World→Prop} {Q Q' : Exit→Act→World→Prop} (h:∀ a' w,J3 (Zhr o.dst []) a a'→K a' w→K' a' w) (hN:∀ e a w,e≠.normal→Q e a w→Q' e a w) (hh:o.wp P a w K Q):o.wp P a w K' Q':=by
 unfold Oper.wp at *;generalize (execOp a.eval o).run P w=r at *;cases r with
 | ok n w' =>
  cases n<;>simp only[Oper.upon] at hh ⊢ <;>
   first
    | exact h _ _ (ZbT _ _ _) hh
    | exact Calls.mono hh (fun e aa he=>by
      cases e<;>first | exact h _ _ (ZbT _ _ _) he | exact hN _ _ _ (fun h=>by cases h) he | (obtain⟨a2,w2,h2⟩:=he;exact⟨a2,w2,hN _ _ _ (fun h=>by cases h) h2⟩))
    | exact Rows.mono hh (fun _ _ he=>h _ _ (ZbT _ _ _) he)
 | halt x w'=>cases x<;>simp only[Oper.upon] at hh ⊢ <;> first | exact hh | exact hN _ _ _ (fun h=>by cases h) hh
theorem ZcI {P:Program} {ops:Array Oper} {Q Q' : Exit→Act→World→Prop} {ds:List Nat} (a0:Act) (hd:∀ (i:Nat) (o:Oper),ops[i]?=some o→∀ t,o.dst=some t→t∈ds) (hQ:∀ a w,J3 ds a0 a→Q .normal a w→Q' .normal a w) (hN:∀ e a w,e≠.normal→Q e a w→Q' e a w) :
  ∀ (ab:Nat) (aa:Array Bool) (a:Act) (w:World),J3 ds a0 a→wpAny P .any ops Q ab aa a w→wpAny P .any ops Q' ab aa a w
 | 0,_,a,w,hs,h=>⟨h.1,hQ a w hs h.2⟩
 | ab+1,aa,a,w,hs,h=>by
  refine⟨fun h0=>hQ a w hs (h.1 h0),fun i hi=>?_⟩;have h1:=h.2 i hi;unfold wpOp at h1 ⊢;cases ho:ops[i]? with
  | none=>rw[ho] at h1;exact ZcI a0 hd hQ hN ab _ a w hs h1
  | some o=>
   rw[ho] at h1;simp only at h1 ⊢;have ad:∀ a' w',J3 (Zhr o.dst []) a a'→wpAny P .any ops Q ab (aa.setIfInBounds i true) a' w'→wpAny P .any ops Q' ab (aa.setIfInBounds i true) a' w':=fun a' w' h2 h3=>
    ZcI a0 hd hQ hN ab _ a' w' (fun t ht=>by
     rw[h2 t fun hm=>?_]
     ·exact hs t ht
     ·cases hdd:o.dst with
      | none=>rw[hdd] at hm;cases hm
      | some k=>
       rw[hdd] at hm;simp only[Zhr,Kv] at hm;subst hm;exact ht (hd i o ho _ hdd)) h3
   split
   ·rename_i hw;rw[Ko hw] at h1;rcases h1 with h1 | ⟨h1,h2⟩
    ·exact .inl (ZrN ad hN h1)
    ·obtain⟨a2,w2,h3⟩:=h2;exact .inr ⟨h1,a2,w2,hN _ _ _ (fun h=>by cases h) h3⟩
   ·rename_i hw;rw[Kn hw] at h1;exact ad _ _ (ZbT _ _ _) h1
theorem Zjr:∀ {os:List CO} {i:Nat} {o:CO} {t:Nat},os[i]?=some o→o.dst=some t→t∈We os
 | [],i,o,t,h,_=>by simp at h
 | c :: os,0,o,t,h,hd=>by
  simp only[LU,Option.some.injEq] at h;subst h;simp only[We,hd,Zhr,Kf,true_or]
 | c :: os,i+1,o,t,h,hd=>by
  simp only[Lb] at h;have:=Zjr h hd;cases hc:c.dst<;>simp[We,hc,Zhr,this]
theorem ZgN {C:Orc} {M:Zg} (hm:P.follows .mixedOrders=true) (hC:Qh P C):Y5 P C M nt:=by
 intro F A Γ0 ops os nx m sl hp r I Γ a w Q id ad ae hv aa hS hc hQ;refine wp_region_any hm ?_;have af:os.length=ops.size:=by rw[Jm ad];simp
 rw[ZcG C (Xa M) os nx os 0 false sl hp rfl] at hv;have ab:rem ops.size (Array.replicate ops.size false)=List.range ops.size:=by
  simp only[rem];refine LQ.2 fun i hi=>?_;have:=Ln.1 hi;simp[this]
 show wpAny P .any ops Q ops.size (Array.replicate ops.size false) a w.drew;refine ZcI (Q:=fun e a' w'=>e=.normal∧Wg nt F A Γ0 I w { sl:=r.1,hp:=r.2,nx:=nx+64*ops.size,m:=m } a' w') (ds:=We os) a (fun i o ho t ht=>?_) (fun a' w' hs hq=>hQ a' w' hq.2 hs) (fun e a' w' he hq=>absurd hq.1 he) _ _ a _ (fun _ _=>rfl) ?_
 ·obtain⟨co,h1,h2⟩:=Zdc ad i o (by simpa using ho);exact Zjr h1 ((ZaI h2).2.2.2.trans ht)
 refine Zpj (M:=Xa M) (fun _=>rfl) (Γ0:=Γ0) (F:=F) (A:=A) (m:=m) (I:=I) (w:=w) hC ad ae aa (fun a' w' hp=>⟨rfl,hp⟩) ops.size _ (sl,hp) I Γ a w.drew (by simp) ?_ (by rw[ab];simp) ?_ hc ⟨fun _ h=>h,fun _ _=>rfl⟩ (fun _ h=>.inl h) ⟨rfl,rfl,rfl,Kh _,fun _ _ _=>rfl⟩ ⟨r,?_,QV.refl r⟩
 ·intro k hk;exfalso
  have h1:=(Vx hk).1;simp at h1;simp[h1] at hk
 ·exact(Zqu hS).more fun id hu=>.inl hu
 ·rw[ab,List.range_eq_range',← af];exact hv
end
theorem Zky {P:Program} {X:Fns} {M:Zg} (hm:P.follows .mixedOrders=true) (hX:Zb5 P X M):Qh P (Zj X M):=
 Zfv hX fun _ _ hC=>ZgN hm hC
end Go.Abs
