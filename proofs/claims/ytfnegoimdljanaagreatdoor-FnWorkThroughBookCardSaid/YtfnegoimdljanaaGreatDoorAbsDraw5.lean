import Derived.Test.YtfnegoimdljanaaGreatDoorAbsDraw4
set_option linter.unusedSimpArgs false
set_option linter.unusedVariables false
namespace Go.Abs
open Go
section
variable {P:Program} {nt:Nat} {F A:Nat→Prop} {Γ0:Gh}
theorem Zzv {I:Nat→Prop} {Γ:Gh} {U U' : Nat→Prop} {s r:Sl×Hp} {a:Act} {w:World} (h:Sim nt F A I Γ U s.1 s.2 a w) (hs:XJ s r) (hu:∀ id,U id→U' id):Sim nt F A I Γ U' r.1 r.2 a w where
 nt:=h.nt
 dfr:=h.dfr
 slots:=fun t=>by rw[← hs.1 t];exact h.slots t
 objs:=fun id o hl=>h.objs id o (by rw[hs.2 id];exact hl)
 inj:=fun i j o o' b hi hj=>h.inj i j o o' b (by rw[hs.2 i];exact hi) (by rw[hs.2 j];exact hj)
 bound:=h.bound
 fresh:=h.fresh
 own:=h.own
 names:=fun id aa=>h.names id fun hx=>aa (hu id hx)
 glob:=h.glob
theorem Zvp {ops:Array Oper} {os:List CO} (h:Zp1 ops os=true) :
  (∀ i,i<ops.size→∀ e∈VJ ops i,e<i)∧(∀ i,i<ops.size→∀ j,j<i→j∈VJ ops i∨Zuo os j i=true) ∧
  (∀ i,i<ops.size→∀ j,j<i→ZgR ops 6 i j=true∨Zuq os j i=true) ∧
  (∀ (k:Nat) (o:CO),os[k]?=some o→∀ x∈ZF o.op,YI x=true):=by
 unfold Zp1 at h;simp only[Kf] at h;obtain⟨⟨⟨h1,h2⟩,h3⟩,h4⟩:=h;refine⟨fun i hi e he=>?_,fun i hi j hj=>?_,fun i hi j hj=>?_,fun k o ho x hx=>?_⟩
 ·have:=KW.1 (KW.1 h1 i (Lx.2 hi)) e he;simpa using this
 ·have:=KW.1 (KW.1 h2 i (Lx.2 hi)) j (Lx.2 hj);simpa using this
 ·have:=KW.1 h3 i (Lx.2 hi);have:=KW.1 this j (Lx.2 hj);simpa using this
 ·exact KW.1 (KW.1 h4 o (Kb ho)) x hx
theorem Znp {ops:Array Oper} {i:Nat} {o:Oper} (ho:ops[i]?=some o) {k:Nat}:k∈VJ ops i↔∃ e∈o.after,Region.binds .any e=true∧e.on=k:=by
 simp only[VJ,ho,Lk,LS,Array.mem_toList_iff];constructor
 ·rintro ⟨e,⟨h1,h2⟩,h3⟩;exact⟨e,h1,h2,h3⟩
 ·rintro ⟨e,h1,h2,h3⟩;exact⟨e,⟨h1,h2⟩,h3⟩
theorem Znq {ops:Array Oper} {aa:Array Bool} (ab:∀ k,aa.getD k false=true→∀ e∈VJ ops k,aa.getD e false=true):∀ (n:Nat) {i j:Nat},(∀ e∈VJ ops i,aa.getD e false=true)→ZgR ops n i j=true→aa.getD j false=true
 | 0,i,j,hd,h=>by
  simp only[ZgR,KX,Ko] at h;exact hd j h
 | n+1,i,j,hd,h=>by
  simp only[ZgR,KX,Lt,Ko,LM] at h;rcases h with h | ⟨z,hz,h⟩
  ·exact hd j h
  ·exact Znq ab n (fun e he=>ab z (hd z hz) e he) h
theorem Znr {os:List CO} {sl:Sl}:∀ {ps:List (Nat×Nat)},VM os sl ps=true→∀ p∈ps,ZkL os sl p=true
 | [],_,p,hp=>by simp at hp
 | q :: ps,h,p,hp=>by
  simp only[VM,Kf] at h;rcases Kd.1 hp with rfl | hp
  ·exact h.1
  ·exact Znr h.2 p hp
theorem Zua {sl sl' : Sl} (h:∀ t,gs sl t=gs sl' t) (d:Option Nat) (a b:COp):Ug sl d a b=Ug sl' d a b:=by
 have e:∀ x:Opd,evO sl x=evO sl' x:=fun x=>by cases x<;>simp only[evO];exact h _
 have f:∀ (id:Nat) (xs:List Opd),QS sl id xs=QS sl' id xs:=by
  intro id xs
  induction xs with
  | nil=>rfl
  | cons x xs ih=>simp only[QS,e,ih]
 have g1:∀ xs:List Opd,okL sl xs=okL sl' xs:=by
  intro xs
  induction xs with
  | nil=>rfl
  | cons x xs ih=>simp only[okL,e,ih]
 have g2:∀ (zs:List Opd) (v:AV),ZbQ sl zs v=ZbQ sl' zs v:=by
  intro zs v;cases v<;>simp only[ZbQ]
  exact f _ _
 have g3:∀ zs xs:List Opd,ZgS sl zs xs=ZgS sl' zs xs:=by
  intro zs xs
  induction xs with
  | nil=>rfl
  | cons x xs ih=>simp only[ZgS,e,ih,g2]
 have g4:okD sl d=okD sl' d:=by
  cases d<;>simp only[okD,h]
 cases ha:YM a with
 | true=>cases a<;>first | (cases ha;done) | exact g4
 | false=>
  cases b with
  | store slc s x y=>
   have hx:∀ sl:Sl,Ug sl d a (.store slc s x y)=(Ze2 sl a (Vh (evO sl x))&&Vz sl a (evO sl x) (evO sl y)):=fun sl=>by cases a<;>first | (cases ha;done) | rfl
   have q0:∀ ks:List Nat,XU sl (ZF a) ks=XU sl' (ZF a) ks:=fun ks=>by
    induction ks with
    | nil=>rfl
    | cons k r ih=>simp only[XU,f,ih]
   have q1:∀ u v:AV,Vz sl a u v=Vz sl' a u v:=fun u v=>by unfold Vz;split<;>first | rfl | rw[q0]
   rw[hx,hx,e,e,q1];cases Vh (evO sl' x)<;>simp only[Ze2]
   rw[f]
  | append sz by_ str flat x y=>
   have hx:∀ sl:Sl,Ug sl d a (.append sz by_ str flat x y)=(US sl a (evO sl x)&&(flat || seenSrc sl a (evO sl y))):=fun sl=>by cases a<;>first | (cases ha;done) | rfl
   have q1:∀ v:AV,US sl a v=US sl' a v:=fun v=>by
    cases v<;>simp only[US]<;>first | exact f _ _ | skip
    case tup vs=>cases vs<;>rfl
   have q2:∀ v:AV,seenSrc sl a v=seenSrc sl' a v:=fun v=>by
    cases v<;>simp only[seenSrc]
    exact f _ _
   rw[hx,hx,e,e,q1,q2]
  | call g as1=>
   have hx:∀ sl:Sl,Ug sl d a (.call g as1)=(okL sl (ZF a)&&(okD sl d&&(okL sl as1&&ZgS sl (ZF a) as1))):=fun sl=>by cases a<;>first | (cases ha;done) | rfl
   rw[hx,hx,g1,g4,g1,g3]
  | _=>cases a<;>first | (cases ha;done) | rfl
theorem Zzw {C:Orc} {M:Zq} (hM:∀ f,M f 99=false) (hC:QJ P C) {ops:Array Oper} {os:List CO} (a9:QF (ZnG P nt ops.toList) ops.toList=some os) (bo:Zp1 ops os=true) {nx m:Nat} {r:Sl×Hp} (ax:VM os r.1 (JK ops os)=true) {Q:Exit→Act→World→Prop}
  {I:Nat→Prop} {w:World} (hQ:∀ a' w',UV nt F A Γ0 I w { sl:=r.1,hp:=r.2,nx:=nx+64*ops.size,m:=m } a' w'→Q .normal a' w') :
  ∀ (ai:Nat) (aa:Array Bool) (s:Sl×Hp) (I1:Nat→Prop) (Γ1:Gh) (a1:Act) (w1:World),aa.size=ops.size →
   (∀ k,aa.getD k false=true→∀ e∈VJ ops k,aa.getD e false=true)→(rem ops.size aa).length≤ai →
   Sim nt F A I1 Γ1 (Zsz nx aa) s.1 s.2 a1 w1→Ze9 Γ0 Γ1 s.2→ZO I I1 w w1→(∀ b,I1 b→I b∨F b)→Fr F w w1 →
   (∃ r',runL C M os nx (rem ops.size aa) s=some r'∧XJ r' r)→wpAny P .any ops Q ai aa a1 w1:=by
 obtain⟨bp,bq,br,bs⟩:=Zvp bo;have done:∀ (aa:Array Bool) (s:Sl×Hp) (I1:Nat→Prop) (Γ1:Gh) (a1:Act) (w1:World),aa.size=ops.size→rem ops.size aa=[] →
   Sim nt F A I1 Γ1 (Zsz nx aa) s.1 s.2 a1 w1→Ze9 Γ0 Γ1 s.2→ZO I I1 w w1→(∀ b,I1 b→I b∨F b)→Fr F w w1→(∃ r',runL C M os nx (rem ops.size aa) s=some r'∧XJ r' r)→Q .normal a1 w1:=by
  intro aa s I1 Γ1 a1 w1 am af hS hc hk ag hf hr;obtain⟨r',aw,ay⟩:=hr;rw[af] at aw;simp only[runL] at aw;cases aw;refine hQ a1 w1 ⟨I1,Γ1,hc,hk,ag,hf,?_⟩
  ·refine Zzv hS ay fun id hu=>?_;rcases hu with hu | ⟨k,a4,b8,b9⟩
   ·show id<nx+64*ops.size;omega
   ·have:=(W0 a4).1;show id<nx+64*ops.size;omega
 have ar:∀ (aa:Array Bool),aa.size=ops.size→Region.ready .any ops aa=[]→rem ops.size aa=[]:=by
  intro aa am hr;cases af:rem ops.size aa with
  | nil=>rfl
  | cons i l=>
   exfalso
   have hi:i∈rem ops.size aa:=by rw[af];simp
   obtain⟨ao,a5⟩:=Zh6.1 hi;have au:∀ j,j<i→aa.getD j false=true:=by
    intro j hj;have bt:j<ops.size:=o_
    have a6:j∉rem ops.size aa:=by
     intro hm;have hp:=Zpv ops.size aa;rw[af] at hm hp;rcases Kd.1 hm with rfl | hm
     ·omega
     ·have:=(LY.1 hp).1 j hm;omega
    rw[Zh6] at a6;have bu:j<aa.size:=o_
    simp only[bt,true_and] at a6;simp[bu] at a6 ⊢;exact a6
   have bh:i∈Region.ready .any ops aa:=by
    refine mem_ready.2 ⟨a5,ops[i],by simp[ao],fun e he hb=>?_⟩;refine au _ (bp i ao e.on ?_);exact(Znp (by simp[ao])).2 ⟨e,he,hb,rfl⟩
   rw[hr] at bh;cases bh
 intro ai
 induction ai with
 | zero=>
  intro aa s I1 Γ1 a1 w1 am ba bv hS hc hk ag hf hr;have af:rem ops.size aa=[]:=Ks o_;refine⟨?_,done aa s I1 Γ1 a1 w1 am af hS hc hk ag hf hr⟩;cases hrd:Region.ready .any ops aa with
  | nil=>rfl
  | cons i l=>
   have hi:i∈Region.ready .any ops aa:=by rw[hrd];simp
   obtain⟨h1,o,ho,_⟩:=mem_ready.1 hi;have:i∈rem ops.size aa:=Zh6.2 ⟨(KO.1 ho).1,h1⟩;rw[af] at this;cases this
 | succ ai ih=>
  intro aa s I1 Γ1 a1 w1 am ba bv hS hc hk ag hf hr;refine⟨fun h0=>done aa s I1 Γ1 a1 w1 am (ar aa am h0) hS hc hk ag hf hr,fun i hi=>?_⟩;obtain⟨a5,o,ho,bb⟩:=mem_ready.1 hi;have ao:i<ops.size:=(KO.1 ho).1;have av:∀ e∈VJ ops i,aa.getD e false=true:=fun e he=>by
   obtain⟨e',h1,h2,rfl⟩:=(Znp ho).1 he;exact bb e' h1 h2
  have az:i∈rem ops.size aa:=Zh6.2 ⟨ao,a5⟩;obtain⟨js,ks,ab⟩:=List.append_of_mem az;have ae:=Zpv ops.size aa;rw[ab] at ae;have bi:(rem ops.size aa).Nodup:=List.Pairwise.filter _ Kaq;rw[ab] at bi;have bc:∀ j∈js,j<i∧aa.getD j true=false:=fun j hj=>by
   refine⟨(LP.1 ae).2.2 j hj i (by simp),?_⟩;have:j∈rem ops.size aa:=by rw[ab];simp[hj]
   exact(Zh6.1 this).2
  have ad:∀ j,aa.getD j true=false→aa.getD j false≠true:=fun j h1 h2=>by rw[(W0 h2).2] at h1;cases h1
  have bw:os.length=ops.size:=by rw[ZcU a9];simp
  obtain⟨co,ah,bx⟩:=Zkn a9 i o (by simpa using ho);obtain⟨hg,bz,a0,b0⟩:=Zfa bx;obtain⟨r',aw,ay⟩:=hr;rw[ab] at aw;have an:i∉js:=fun hm=>by have:=(bc i hm).1;omega
  have ap:=Zpw (nx:=nx) a5;obtain⟨s',al,r2,bj,bk⟩:=Zyw hM hC a9 ah bs js ⟨F,A,I1,Γ1,a1,w1,hS⟩ ap (fun j hj=>Zpw (bc j hj).2)
   ae (fun j hj=>by
    obtain⟨h1,h2⟩:=bc j hj;have bd:∃ oj,os[j]?=some oj∧Xx oj co=true:=by
     rcases bq i ao j h1 with h3 | h3
     ·exact absurd (av j h3) (ad j h2)
     ·unfold Zuo at h3;rw[ah] at h3;split at h3
      ·rename_i x y h4 h5;cases h5;exact⟨x,h4,h3⟩
      ·cases h3
    obtain⟨oj,aj,bd⟩:=bd;refine⟨oj,aj,bd,?_⟩;have bl:ZgR ops 6 i j=false:=by
     cases htd:ZgR ops 6 i j with
     | false=>rfl
     | true=>exact absurd (Znq ba 6 av htd) (ad j h2)
    have seen:∀ p,Ze1 os j i=some p→∃ x y,os[p.1]?=some x∧os[p.2]?=some y∧Ug r'.1 x.dst x.op y.op=true:=by
     intro p hp;have be:p∈JK ops os:=by
      simp only[JK,Kz,Lx];refine⟨i,ao,j,h1,?_⟩;rw[bl,hp];simp[optP]
     have a7:=Znr ax _ be;unfold ZkL at a7;split at a7
     ·rename_i x y e1 e2;exact⟨x,y,e1,e2,by rw[Zua ay.1];exact a7⟩
     ·cases a7
    have b':ZV os j=CO.starts oj:=by simp only[ZV,aj]
    have ca:ZV os i=CO.starts co:=by simp only[ZV,ah]
    rcases br i ao j h1 with h3 | h3
    ·rw[bl] at h3;cases h3
    ·unfold Zuq at h3;rw[aj,ah] at h3;simp only at h3;cases hj' : ZV os j with
     | true=>
      rw[hj'] at h3;simp only[Kl,ZA9,ZkK,Lt,Kf,K0] at h3;obtain⟨g1,⟨g2,g3⟩ | ⟨⟨⟨⟨g0,g2⟩,g3⟩,g4,g5⟩,g6⟩⟩:=h3
      ·obtain⟨x,y,e1,e2,e3⟩:=seen (i,j) (by unfold Ze1;rw[aj,ah];simp[hj',g2]);simp only at e1 e2;rw[ah] at e1;cases e1;refine .inr (.inl ⟨rfl,g1,g2,g3,?_⟩);cases hx:co.op<;>rw[hx] at g2 e3<;>first | (cases g2;done) | exact e3
      ·obtain⟨x,y,e1,e2,e3⟩:=seen (i,j) (by unfold Ze1;rw[aj,ah];simp[hj',g2]);simp only at e1 e2;rw[ah] at e1;cases e1;rw[aj] at e2;cases e2;exact .inr (.inr ⟨rfl,g1,g0,g2,g3,g4,g5,g6,e3⟩)
     | false=>
      rw[hj'] at h3;simp only[Ka,Km,ZA8,ZkK,Lt,Kf,K0] at h3;refine .inl ⟨rfl,fun a8=>?_⟩;rcases h3 with h3 | ((h3 | ⟨h4,h5⟩) | ⟨h3,h4⟩) | ⟨⟨⟨⟨g0,g2⟩,g3⟩,g4,g5⟩,g6⟩
      ·rw[a8] at h3;cases h3
      ·exact .inl h3
      ·cases hcm:Zxn co.op with
       | true=>exact .inl rfl
       | false=>
        refine .inr (.inl ⟨h4,?_⟩);cases hhf:V1 oj.op with
        | true=>exact .inl rfl
        | false=>
         rcases h5 with h5 | h5
         ·rw[hhf] at h5;cases h5
         ·refine .inr ⟨h5.1.2,h5.2.1,h5.2.2,?_⟩;obtain⟨x,y,e1,e2,e3⟩:=seen (j,i) (by unfold Ze1;rw[aj,ah];simp[hj',a8,h4,hhf]);simp only at e1 e2;rw[aj] at e1;cases e1;rw[ah] at e2;cases e2;have bm:=h5.1.1;cases hy:co.op<;>rw[hy] at h4 e3<;>first | (cases h4;done) | (cases hx:oj.op<;>rw[hx] at bm e3<;>first | (cases bm;done) | exact e3)
      ·cases hng:Ze0 co.op with
       | true=>exact .inr (.inr (.inl ⟨h3,rfl⟩))
       | false=>
        rcases h4 with h4 | h4
        ·rw[hng] at h4;cases h4
        ·cases bf:ZpY co.op with
         | true=>
          have:V1 oj.op=true:=by cases hx:oj.op<;>rw[hx] at h3<;>first | (cases h3;done) | rfl
          exact .inr (.inl ⟨rfl,.inl this⟩)
         | false=>
          obtain⟨x,y,e1,e2,e3⟩:=seen (j,i) (by unfold Ze1;rw[aj,ah];simp[hj',a8,h3,hng,bf]);simp only at e1 e2;rw[aj] at e1;cases e1;refine .inr (.inr (.inr (.inl ⟨h3,h4,?_⟩)));cases hx:oj.op<;>rw[hx] at h3 e3<;>first | (cases h3;done) | exact e3
      ·have bf:ZpY co.op=false:=by cases hy:co.op<;>rw[hy] at g2<;>first | (cases g2;done) | rfl
       obtain⟨x,y,e1,e2,e3⟩:=seen (j,i) (by unfold Ze1;rw[aj,ah];simp[hj',a8,g2,g0,bf]);simp only at e1 e2;rw[aj] at e1;cases e1;rw[ah] at e2;cases e2;exact .inr (.inr (.inr (.inr ⟨g0,g2,g3,g4,g5,g6,e3⟩))))
   (fun j hj=>by
    have:j∈rem ops.size aa:=by rw[ab];exact hj
    rw[bw];exact(Zh6.1 this).1) aw
  have ak : rem ops.size (aa.setIfInBounds i true)=js++ks:=by
   rw[ZCr am,ab,List.filter_append,List.filter_cons];simp only[bne_self_eq_false,Ka,Km];have b6:i∉ks:=by
    have:=(LQ.1 bi).2.1;exact(Lj.1 this).1
   rw[List.filter_eq_self.2,List.filter_eq_self.2]
   ·intro x hx;simp;exact fun e=>b6 (e ▸ hx)
   ·intro x hx;simp;exact fun e=>an (e ▸ hx)
  have aq : (rem ops.size (aa.setIfInBounds i true)).length≤ai:=by
   rw[ak];have:(rem ops.size aa).length=js.length+ks.length+1:=by rw[ab];simp;omega
   simp;omega
  have a2 : ∀ k,(aa.setIfInBounds i true).getD k false=true→∀ e∈VJ ops k,(aa.setIfInBounds i true).getD e false=true:=by
   intro k a4 e he;by_cases bn:i=k
   ·subst bn;exact getD_set_true (av e he)
   ·rw[getD_set_ne false bn] at a4;exact getD_set_true (ba k a4 e he)
  have a3:i<aa.size:=o_
  unfold wpOp;rw[ho];simp only;unfold ZH at al;rw[ah,Zg] at al;unfold ZN at al;obtain⟨b,hw,al⟩:=Za al;rw[ZvU hS hg hw];rw[b0] at al;cases b with
  | true=>
   simp only[Kl] at al ⊢;obtain⟨ce,b7,bg,rfl⟩:=Xr al;refine .inl (ZwX hC hS bz ap a0 bg (Zef b7) _ _ fun u w' hp'=>?_);obtain⟨I2,Γ2,b1,b2,b3,b4,b5⟩:=hp';refine ih _ _ I2 Γ2 _ _ (by simpa using am) a2 aq (b5.more (Zpx a3)) (Vi.cpre (hp:=s.2) b1 hc) (hk.trans b2) (fun x hx=>?_) (hf.trans b4) ⟨r2,by rw[ak];exact bj,bk.trans ay⟩
   ·rcases b3 x hx with h | h
    ·exact ag x h
    ·exact .inr h
  | false=>
   simp only[Ka,Km] at al ⊢;cases al;obtain⟨I2,Γ2,b1,b2,b3,b4,b5⟩:=hS.pure (U':=Zsz nx (aa.setIfInBounds i true)) (v:=.tup []) (u:=undef) (dst:=o.dst) (fun id hu=>Zpx a3 id (.inl hu)) Zmt a0;refine ih _ _ I2 Γ2 _ _ (by simpa using am) a2 aq b5 (Vi.cpre (hp:=s.2) b1 hc) (hk.trans b2) (fun x hx=>?_) (hf.trans b4) ⟨r2,by rw[ak];exact bj,bk.trans ay⟩
   ·rcases b3 x hx with h | h
    ·exact ag x h
    ·exact .inr h
theorem ZAW {I:Nat→Prop} {Γ:Gh} {U:Nat→Prop} {sl:Sl} {hp:Hp} {a:Act} {w:World} (h:Sim nt F A I Γ U sl hp a w):Sim nt F A I Γ U sl hp a w.drew where
 nt:=h.nt
 dfr:=h.dfr
 slots:=fun t=>(h.slots t).mono (Qa.refl Γ) (⟨fun _ h=>h,fun _ _=>rfl⟩:ZO I I w w.drew)
 objs:=fun id o hl=>(h.objs id o hl).mono (Qa.refl Γ) (⟨fun _ h=>h,fun _ _=>rfl⟩:ZO I I w w.drew) fun _ _=>⟨rfl,fun h=>h⟩
 inj:=fun i j o o' b hi hj aa ab=>h.inj i j o o' b hi hj (aa.back (h.objs i o hi) rfl fun _ _=>rfl) (ab.back (h.objs j o' hj) rfl fun _ _=>rfl)
 bound:=h.bound
 fresh:=h.fresh
 own:=h.own
 names:=h.names
 glob:=h.glob
theorem Zh7 (a:Act) (d:Option Nat) (u:Value):Zeo (Zof d []) a (a.put d u):=Zeo.step (l:=[]) (fun _ _=>rfl)
theorem ZCs {P:Program} {o:Oper} {a:Act} {w:World} {K K' : Act→World→Prop} {Q Q' : Exit→Act→World→Prop} (h:∀ a' w,Zeo (Zof o.dst []) a a'→K a' w→K' a' w) (hN:∀ e a w,e≠.normal→Q e a w→Q' e a w) (hh:o.wp P a w K Q):o.wp P a w K' Q':=by
 unfold Oper.wp at *;generalize (execOp a.eval o).run P w=r at *;cases r with
 | ok n w' =>
  cases n<;>simp only[Oper.upon] at hh ⊢ <;>
   first
    | exact h _ _ (Zh7 _ _ _) hh
    | exact Calls.mono hh (fun e aa he=>by
      cases e<;>first | exact h _ _ (Zh7 _ _ _) he | exact hN _ _ _ (fun h=>by cases h) he | (obtain⟨a2,w2,h2⟩:=he;exact⟨a2,w2,hN _ _ _ (fun h=>by cases h) h2⟩))
    | exact Rows.mono hh (fun _ _ he=>h _ _ (Zh7 _ _ _) he)
 | halt x w'=>cases x<;>simp only[Oper.upon] at hh ⊢ <;> first | exact hh | exact hN _ _ _ (fun h=>by cases h) hh
theorem ZjB {P:Program} {ops:Array Oper} {Q Q' : Exit→Act→World→Prop} {ds:List Nat} (a0:Act) (hd:∀ (i:Nat) (o:Oper),ops[i]?=some o→∀ t,o.dst=some t→t∈ds) (hQ:∀ a w,Zeo ds a0 a→Q .normal a w→Q' .normal a w) (hN:∀ e a w,e≠.normal→Q e a w→Q' e a w) :
  ∀ (ab:Nat) (aa:Array Bool) (a:Act) (w:World),Zeo ds a0 a→wpAny P .any ops Q ab aa a w→wpAny P .any ops Q' ab aa a w
 | 0,_,a,w,hs,h=>⟨h.1,hQ a w hs h.2⟩
 | ab+1,aa,a,w,hs,h=>by
  refine⟨fun h0=>hQ a w hs (h.1 h0),fun i hi=>?_⟩;have h1:=h.2 i hi;unfold wpOp at h1 ⊢;cases ho:ops[i]? with
  | none=>rw[ho] at h1;exact ZjB a0 hd hQ hN ab _ a w hs h1
  | some o=>
   rw[ho] at h1;simp only at h1 ⊢;have ad:∀ a' w',Zeo (Zof o.dst []) a a'→wpAny P .any ops Q ab (aa.setIfInBounds i true) a' w'→wpAny P .any ops Q' ab (aa.setIfInBounds i true) a' w':=fun a' w' h2 h3=>
    ZjB a0 hd hQ hN ab _ a' w' (fun t ht=>by
     rw[h2 t fun hm=>?_]
     ·exact hs t ht
     ·cases hdd:o.dst with
      | none=>rw[hdd] at hm;cases hm
      | some k=>
       rw[hdd] at hm;simp only[Zof,KG] at hm;subst hm;exact ht (hd i o ho _ hdd)) h3
   split
   ·rename_i hw;rw[Kj hw] at h1;rcases h1 with h1 | ⟨h1,h2⟩
    ·exact .inl (ZCs ad hN h1)
    ·obtain⟨a2,w2,h3⟩:=h2;exact .inr ⟨h1,a2,w2,hN _ _ _ (fun h=>by cases h) h3⟩
   ·rename_i hw;rw[Ke hw] at h1;exact ad _ _ (Zh7 _ _ _) h1
theorem ZsA:∀ {os:List CO} {i:Nat} {o:CO} {t:Nat},os[i]?=some o→o.dst=some t→t∈UT os
 | [],i,o,t,h,_=>by simp at h
 | c :: os,0,o,t,h,hd=>by
  simp only[KT,Option.some.injEq] at h;subst h;simp only[UT,hd,Zof,Kd,true_or]
 | c :: os,i+1,o,t,h,hd=>by
  simp only[KU] at h;have:=ZsA h hd;cases hc:c.dst<;>simp[UT,hc,Zof,this]
theorem Zpy {C:Orc} {M:Zq} (hm:P.follows .mixedOrders=true) (hC:QJ P C):Wm P C M nt:=by
 intro F A Γ0 ops os nx m sl hp r I Γ a w Q id ad ae hv aa hS hc hQ;refine wp_region_any hm ?_;have af:os.length=ops.size:=by rw[ZcU ad];simp
 rw[Zjz C (X5 M) os nx os 0 false sl hp rfl] at hv;have ab:rem ops.size (Array.replicate ops.size false)=List.range ops.size:=by
  simp only[rem];refine List.filter_eq_self.2 fun i hi=>?_;have:=Lx.1 hi;simp[this]
 show wpAny P .any ops Q ops.size (Array.replicate ops.size false) a w.drew;refine ZjB (Q:=fun e a' w'=>e=.normal∧UV nt F A Γ0 I w { sl:=r.1,hp:=r.2,nx:=nx+64*ops.size,m:=m } a' w') (ds:=UT os) a (fun i o ho t ht=>?_) (fun a' w' hs hq=>hQ a' w' hq.2 hs) (fun e a' w' he hq=>absurd hq.1 he) _ _ a _ (fun _ _=>rfl) ?_
 ·obtain⟨co,h1,h2⟩:=Zkn ad i o (by simpa using ho);exact ZsA h1 ((Zfa h2).2.2.2.trans ht)
 refine Zzw (M:=X5 M) (fun _=>rfl) (Γ0:=Γ0) (F:=F) (A:=A) (m:=m) (I:=I) (w:=w) hC ad ae aa (fun a' w' hp=>⟨rfl,hp⟩) ops.size _ (sl,hp) I Γ a w.drew (by simp) ?_ (by rw[ab];simp) ?_ hc ⟨fun _ h=>h,fun _ _=>rfl⟩ (fun _ h=>.inl h) ⟨rfl,rfl,rfl,Kp _,fun _ _ _=>rfl⟩ ⟨r,?_,XJ.refl r⟩
 ·intro k hk;exfalso
  have h1:=(W0 hk).1;simp at h1;simp[h1] at hk
 ·exact(ZAW hS).more fun id hu=>.inl hu
 ·rw[ab,List.range_eq_range',← af];exact hv
end
theorem Zub {P:Program} {X:Fns} {M:Zq} (hm:P.follows .mixedOrders=true) (hX:Zh8 P X M):QJ P (Zd X M):=
 Zns hX fun _ _ hC=>Zpy hm hC
end Go.Abs
