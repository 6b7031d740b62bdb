import Derived.Test.YtfnegoimdljanaaGreatDoorAbsDraw4
set_option linter.all false
namespace Go.Abs
open Go
section
variable {P:Program} {nt:Nat} {F A:Nat→Prop} {Γ0:Gh}
theorem ZBr {I:Nat→Prop} {Γ:Gh} {U U' : Nat→Prop} {s r:Sl×Hp} {a:Act} {w:World} (h:Sim nt F A I Γ U s.1 s.2 a w) (hs:X0 s r) (hu:∀ id,U id→U' id):Sim nt F A I Γ U' r.1 r.2 a w where
 nt:=h.nt
 dfr:=h.dfr
 slots:=fun t=>by rw[← hs.1 t];exact h.slots t
 objs:=fun id o hl=>h.objs id o (by rw[hs.2 id];exact hl)
 inj:=fun i j o o' b hi hj=>h.inj i j o o' b (by rw[hs.2 i];exact hi) (by rw[hs.2 j];exact hj)
 bound:=h.bound
 fresh:=h.fresh
 own:=h.own
 names:=fun id aa=>h.names id fun hx=>aa (hu id hx)
 glob:=h.glob
theorem ZwR {ops:Array Oper} {os:List CO} (h:Zrl ops os=true) :
  (∀ i,i<ops.size→∀ e∈V6 ops i,e<i)∧(∀ i,i<ops.size→∀ j,j<i→j∈V6 ops i∨ZvT os j i=true) ∧
  (∀ i,i<ops.size→∀ j,j<i→ZhK ops 6 i j=true∨ZvV os j i=true) ∧
  (∀ (k:Nat) (o:CO),os[k]?=some o→∀ x∈ZF o.op,Y6 x=true):=by
 unfold Zrl at h;simp only[Kf] at h;obtain⟨⟨⟨h1,h2⟩,h3⟩,h4⟩:=h;refine⟨fun i hi e he=>?_,fun i hi j hj=>?_,fun i hi j hj=>?_,fun k o ho x hx=>?_⟩
 ·have:=K4.1 (K4.1 h1 i (LB.2 hi)) e he;simpa using this
 ·have:=K4.1 (K4.1 h2 i (LB.2 hi)) j (LB.2 hj);simpa using this
 ·have:=K4.1 h3 i (LB.2 hi);have:=K4.1 this j (LB.2 hj);simpa using this
 ·exact K4.1 (K4.1 h4 o (Kb ho)) x hx
theorem ZoB {ops:Array Oper} {i:Nat} {o:Oper} (ho:ops[i]?=some o) {k:Nat}:k∈V6 ops i↔∃ e∈o.after,Region.binds .any e=true∧e.on=k:=by
 simp only[V6,ho,Ll,LY,Array.mem_toList_iff];constructor
 ·rintro ⟨e,⟨h1,h2⟩,h3⟩;exact⟨e,h1,h2,h3⟩
 ·rintro ⟨e,h1,h2,h3⟩;exact⟨e,⟨h1,h2⟩,h3⟩
theorem ZoC {ops:Array Oper} {aa:Array Bool} (ab:∀ k,aa.getD k false=true→∀ e∈V6 ops k,aa.getD e false=true):∀ (n:Nat) {i j:Nat},(∀ e∈V6 ops i,aa.getD e false=true)→ZhK ops n i j=true→aa.getD j false=true
 | 0,i,j,hd,h=>by
  simp only[ZhK,K5,Ko] at h;exact hd j h
 | n+1,i,j,hd,h=>by
  simp only[ZhK,K5,Lx,Ko,LR] at h;rcases h with h | ⟨z,hz,h⟩
  ·exact hd j h
  ·exact ZoC ab n (fun e he=>ab z (hd z hz) e he) h
theorem ZoD {os:List CO} {sl:Sl}:∀ {ps:List (Nat×Nat)},V9 os sl ps=true→∀ p∈ps,ZlY os sl p=true
 | [],_,p,hp=>by simp at hp
 | q :: ps,h,p,hp=>by
  simp only[V9,Kf] at h;rcases Ke.1 hp with rfl | hp
  ·exact h.1
  ·exact ZoD h.2 p hp
theorem ZvC {sl sl' : Sl} (h:∀ t,gs sl t=gs sl' t) (d:Option Nat) (a b:COp):UK sl d a b=UK sl' d a b:=by
 have e:∀ x:Opd,evO sl x=evO sl' x:=fun x=>by cases x<;>simp only[evO];exact h _
 have f:∀ (id:Nat) (xs:List Opd),Q3 sl id xs=Q3 sl' id xs:=by
  intro id xs
  induction xs with
  | nil=>rfl
  | cons x xs ih=>simp only[Q3,e,ih]
 have g1:∀ xs:List Opd,okL sl xs=okL sl' xs:=by
  intro xs
  induction xs with
  | nil=>rfl
  | cons x xs ih=>simp only[okL,e,ih]
 have g2:∀ (zs:List Opd) (v:AV),Zch sl zs v=Zch sl' zs v:=by
  intro zs v;cases v<;>simp only[Zch]
  exact f _ _
 have g3:∀ zs xs:List Opd,ZhL sl zs xs=ZhL sl' zs xs:=by
  intro zs xs
  induction xs with
  | nil=>rfl
  | cons x xs ih=>simp only[ZhL,e,ih,g2]
 have g4:okD sl d=okD sl' d:=by
  cases d<;>simp only[okD,h]
 cases ha:Y8 a with
 | true=>cases a<;>first | (cases ha;done) | exact g4
 | false=>
  cases b with
  | store slc s x y=>
   have hx:∀ sl:Sl,UK sl d a (.store slc s x y)=(ZfN sl a (VH (evO sl x))&&VZ sl a (evO sl x) (evO sl y)):=fun sl=>by cases a<;>first | (cases ha;done) | rfl
   have q0:∀ ks:List Nat,Yd sl (ZF a) ks=Yd sl' (ZF a) ks:=fun ks=>by
    induction ks with
    | nil=>rfl
    | cons k r ih=>simp only[Yd,f,ih]
   have q1:∀ u v:AV,VZ sl a u v=VZ sl' a u v:=fun u v=>by unfold VZ;split<;>first | rfl | rw[q0]
   rw[hx,hx,e,e,q1];cases VH (evO sl' x)<;>simp only[ZfN]
   rw[f]
  | append sz by_ str flat x y=>
   have hx:∀ sl:Sl,UK sl d a (.append sz by_ str flat x y)=(Jk sl a (evO sl x)&&(flat || seenSrc sl a (evO sl y))):=fun sl=>by cases a<;>first | (cases ha;done) | rfl
   have q1:∀ v:AV,Jk sl a v=Jk sl' a v:=fun v=>by
    cases v<;>simp only[Jk]<;>first | exact f _ _ | skip
    case tup vs=>cases vs<;>rfl
   have q2:∀ v:AV,seenSrc sl a v=seenSrc sl' a v:=fun v=>by
    cases v<;>simp only[seenSrc]
    exact f _ _
   rw[hx,hx,e,e,q1,q2]
  | call g as1=>
   have hx:∀ sl:Sl,UK sl d a (.call g as1)=(okL sl (ZF a)&&(okD sl d&&(okL sl as1&&ZhL sl (ZF a) as1))):=fun sl=>by cases a<;>first | (cases ha;done) | rfl
   rw[hx,hx,g1,g4,g1,g3]
  | _=>cases a<;>first | (cases ha;done) | rfl
theorem ZBs {C:Orc} {M:Zr} (hM:∀ f,M f 99=false) (hC:Qy P C) {ops:Array Oper} {os:List CO} (a9:QJ (ZoT P nt ops.toList) ops.toList=some os) (bo:Zrl ops os=true) {nx m:Nat} {r:Sl×Hp} (ax:V9 os r.1 (Zad ops os)=true) {Q:Exit→Act→World→Prop}
  {I:Nat→Prop} {w:World} (hQ:∀ a' w',Jn nt F A Γ0 I w { sl:=r.1,hp:=r.2,nx:=nx+64*ops.size,m:=m } a' w'→Q .normal a' w') :
  ∀ (ai:Nat) (aa:Array Bool) (s:Sl×Hp) (I1:Nat→Prop) (Γ1:Gh) (a1:Act) (w1:World),aa.size=ops.size →
   (∀ k,aa.getD k false=true→∀ e∈V6 ops k,aa.getD e false=true)→(rem ops.size aa).length≤ai →
   Sim nt F A I1 Γ1 (Zt6 nx aa) s.1 s.2 a1 w1→ZfU Γ0 Γ1 s.2→ZP I I1 w w1→(∀ b,I1 b→I b∨F b)→Fr F w w1 →
   (∃ r',runL C M os nx (rem ops.size aa) s=some r'∧X0 r' r)→wpAny P .any ops Q ai aa a1 w1:=by
 obtain⟨bp,bq,br,bs⟩:=ZwR bo;have done:∀ (aa:Array Bool) (s:Sl×Hp) (I1:Nat→Prop) (Γ1:Gh) (a1:Act) (w1:World),aa.size=ops.size→rem ops.size aa=[] →
   Sim nt F A I1 Γ1 (Zt6 nx aa) s.1 s.2 a1 w1→ZfU Γ0 Γ1 s.2→ZP I I1 w w1→(∀ b,I1 b→I b∨F b)→Fr F w w1→(∃ r',runL C M os nx (rem ops.size aa) s=some r'∧X0 r' r)→Q .normal a1 w1:=by
  intro aa s I1 Γ1 a1 w1 am af hS hc hk ag hf hr;obtain⟨r',aw,ay⟩:=hr;rw[af] at aw;simp only[runL] at aw;cases aw;refine hQ a1 w1 ⟨I1,Γ1,hc,hk,ag,hf,?_⟩
  ·refine ZBr hS ay fun id hu=>?_;rcases hu with hu | ⟨k,a4,b7,b8⟩
   ·show id<nx+64*ops.size;omega
   ·have:=(Ut a4).1;show id<nx+64*ops.size;omega
 have ar:∀ (aa:Array Bool),aa.size=ops.size→Region.ready .any ops aa=[]→rem ops.size aa=[]:=by
  intro aa am hr;cases af:rem ops.size aa with
  | nil=>rfl
  | cons i l=>
   exfalso
   have hi:i∈rem ops.size aa:=by rw[af];simp
   obtain⟨ao,a5⟩:=Zi3.1 hi;have au:∀ j,j<i→aa.getD j false=true:=by
    intro j hj;have bt:j<ops.size:=o_
    have a6:j∉rem ops.size aa:=by
     intro hm;have hp:=ZqF ops.size aa;rw[af] at hm hp;rcases Ke.1 hm with rfl | hm
     ·omega
     ·have:=(L6.1 hp).1 j hm;omega
    rw[Zi3] at a6;have bu:j<aa.size:=o_
    simp only[bt,true_and] at a6;simp[bu] at a6 ⊢;exact a6
   have bh:i∈Region.ready .any ops aa:=by
    refine mem_ready.2 ⟨a5,ops[i],by simp[ao],fun e he hb=>?_⟩;refine au _ (bp i ao e.on ?_);exact(ZoB (by simp[ao])).2 ⟨e,he,hb,rfl⟩
   rw[hr] at bh;cases bh
 intro ai
 induction ai with
 | zero=>
  intro aa s I1 Γ1 a1 w1 am ba bv hS hc hk ag hf hr;have af:rem ops.size aa=[]:=Kt o_;refine⟨?_,done aa s I1 Γ1 a1 w1 am af hS hc hk ag hf hr⟩;cases hrd:Region.ready .any ops aa with
  | nil=>rfl
  | cons i l=>
   have hi:i∈Region.ready .any ops aa:=by rw[hrd];simp
   obtain⟨h1,o,ho,_⟩:=mem_ready.1 hi;have:i∈rem ops.size aa:=Zi3.2 ⟨(KP.1 ho).1,h1⟩;rw[af] at this;cases this
 | succ ai ih=>
  intro aa s I1 Γ1 a1 w1 am ba bv hS hc hk ag hf hr;refine⟨fun h0=>done aa s I1 Γ1 a1 w1 am (ar aa am h0) hS hc hk ag hf hr,fun i hi=>?_⟩;obtain⟨a5,o,ho,bb⟩:=mem_ready.1 hi;have ao:i<ops.size:=(KP.1 ho).1;have av:∀ e∈V6 ops i,aa.getD e false=true:=fun e he=>by
   obtain⟨e',h1,h2,rfl⟩:=(ZoB ho).1 he;exact bb e' h1 h2
  have az:i∈rem ops.size aa:=Zi3.2 ⟨ao,a5⟩;obtain⟨js,ks,ab⟩:=List.append_of_mem az;have ae:=ZqF ops.size aa;rw[ab] at ae;have bi:(rem ops.size aa).Nodup:=List.Pairwise.filter _ Kax;rw[ab] at bi;have bc:∀ j∈js,j<i∧aa.getD j true=false:=fun j hj=>by
   refine⟨(LV.1 ae).2.2 j hj i (by simp),?_⟩;have:j∈rem ops.size aa:=by rw[ab];simp[hj]
   exact(Zi3.1 this).2
  have ad:∀ j,aa.getD j true=false→aa.getD j false≠true:=fun j h1 h2=>by rw[(Ut h2).2] at h1;cases h1
  have bw:os.length=ops.size:=by rw[Zdm a9];simp
  obtain⟨co,ah,hcc⟩:=Zlv a9 i o (by simpa using ho);obtain⟨hg,bx,a0,bz⟩:=ZfV hcc;obtain⟨r',aw,ay⟩:=hr;rw[ab] at aw;have an:i∉js:=fun hm=>by have:=(bc i hm).1;omega
  have ap:=ZqG (nx:=nx) a5;obtain⟨s',al,r2,bj,bk⟩:=ZAq hM hC a9 ah bs js ⟨F,A,I1,Γ1,a1,w1,hS⟩ ap (fun j hj=>ZqG (bc j hj).2)
   ae (fun j hj=>by
    obtain⟨h1,h2⟩:=bc j hj;have bd:∃ oj,os[j]?=some oj∧XL oj co=true:=by
     rcases bq i ao j h1 with h3 | h3
     ·exact absurd (av j h3) (ad j h2)
     ·unfold ZvT at h3;rw[ah] at h3;split at h3
      ·rename_i x y h4 h5;cases h5;exact⟨x,h4,h3⟩
      ·cases h3
    obtain⟨oj,aj,bd⟩:=bd;refine⟨oj,aj,bd,?_⟩;have bl:ZhK ops 6 i j=false:=by
     cases htd:ZhK ops 6 i j with
     | false=>rfl
     | true=>exact absurd (ZoC ba 6 av htd) (ad j h2)
    have seen:∀ p,ZfM os j i=some p→∃ x y,os[p.1]?=some x∧os[p.2]?=some y∧UK r'.1 x.dst x.op y.op=true:=by
     intro p hp;have be:p∈Zad ops os:=by
      simp only[Zad,KC,LB];refine⟨i,ao,j,h1,?_⟩;rw[bl,hp];simp[optP]
     have a7:=ZoD ax _ be;unfold ZlY at a7;split at a7
     ·rename_i x y e1 e2;exact⟨x,y,e1,e2,by rw[ZvC ay.1];exact a7⟩
     ·cases a7
    have b9:ZX os j=CO.starts oj:=by simp only[ZX,aj]
    have b':ZX os i=CO.starts co:=by simp only[ZX,ah]
    rcases br i ao j h1 with h3 | h3
    ·rw[bl] at h3;cases h3
    ·unfold ZvV at h3;rw[aj,ah] at h3;simp only at h3;cases hj' : ZX os j with
     | true=>
      rw[hj'] at h3;simp only[Km,ZDd,ZlX,Lx,Kf,K9] at h3;obtain⟨g1,⟨g2,g3⟩ | ⟨⟨⟨⟨g0,g2⟩,g3⟩,g4,g5⟩,g6⟩⟩:=h3
      ·obtain⟨x,y,e1,e2,e3⟩:=seen (i,j) (by unfold ZfM;rw[aj,ah];simp[hj',g2]);simp only at e1 e2;rw[ah] at e1;cases e1;refine .inr (.inl ⟨rfl,g1,g2,g3,?_⟩);cases hx:co.op<;>rw[hx] at g2 e3<;>first | (cases g2;done) | exact e3
      ·obtain⟨x,y,e1,e2,e3⟩:=seen (i,j) (by unfold ZfM;rw[aj,ah];simp[hj',g2]);simp only at e1 e2;rw[ah] at e1;cases e1;rw[aj] at e2;cases e2;exact .inr (.inr ⟨rfl,g1,g0,g2,g3,g4,g5,g6,e3⟩)
     | false=>
      rw[hj'] at h3;simp only[Ka,Kn,ZDc,ZlX,Lx,Kf,K9] at h3;refine .inl ⟨rfl,fun a8=>?_⟩;rcases h3 with h3 | ((h3 | ⟨h4,h5⟩) | ⟨h3,h4⟩) | ⟨⟨⟨⟨g0,g2⟩,g3⟩,g4,g5⟩,g6⟩
      ·rw[a8] at h3;cases h3
      ·exact .inl h3
      ·cases hcm:Zza co.op with
       | true=>exact .inl rfl
       | false=>
        refine .inr (.inl ⟨h4,?_⟩);cases hhf:Wp oj.op with
        | true=>exact .inl rfl
        | false=>
         rcases h5 with h5 | h5
         ·rw[hhf] at h5;cases h5
         ·refine .inr ⟨h5.1.2,h5.2.1,h5.2.2,?_⟩;obtain⟨x,y,e1,e2,e3⟩:=seen (j,i) (by unfold ZfM;rw[aj,ah];simp[hj',a8,h4,hhf]);simp only at e1 e2;rw[aj] at e1;cases e1;rw[ah] at e2;cases e2;have bm:=h5.1.1;cases hy:co.op<;>rw[hy] at h4 e3<;>first | (cases h4;done) | (cases hx:oj.op<;>rw[hx] at bm e3<;>first | (cases bm;done) | exact e3)
      ·cases hng:ZfL co.op with
       | true=>exact .inr (.inr (.inl ⟨h3,rfl⟩))
       | false=>
        rcases h4 with h4 | h4
        ·rw[hng] at h4;cases h4
        ·cases bf:Zri co.op with
         | true=>
          have:Wp oj.op=true:=by cases hx:oj.op<;>rw[hx] at h3<;>first | (cases h3;done) | rfl
          exact .inr (.inl ⟨rfl,.inl this⟩)
         | false=>
          obtain⟨x,y,e1,e2,e3⟩:=seen (j,i) (by unfold ZfM;rw[aj,ah];simp[hj',a8,h3,hng,bf]);simp only at e1 e2;rw[aj] at e1;cases e1;refine .inr (.inr (.inr (.inl ⟨h3,h4,?_⟩)));cases hx:oj.op<;>rw[hx] at h3 e3<;>first | (cases h3;done) | exact e3
      ·have bf:Zri co.op=false:=by cases hy:co.op<;>rw[hy] at g2<;>first | (cases g2;done) | rfl
       obtain⟨x,y,e1,e2,e3⟩:=seen (j,i) (by unfold ZfM;rw[aj,ah];simp[hj',a8,g2,g0,bf]);simp only at e1 e2;rw[aj] at e1;cases e1;rw[ah] at e2;cases e2;exact .inr (.inr (.inr (.inr ⟨g0,g2,g3,g4,g5,g6,e3⟩))))
   (fun j hj=>by
    have:j∈rem ops.size aa:=by rw[ab];exact hj
    rw[bw];exact(Zi3.1 this).1) aw
  have ak : rem ops.size (aa.setIfInBounds i true)=js++ks:=by
   rw[ZEm am,ab,List.filter_append,List.filter_cons];simp only[bne_self_eq_false,Ka,Kn];have b0:i∉ks:=by
    have:=(LX.1 bi).2.1;exact(Lo.1 this).1
   rw[List.filter_eq_self.2,List.filter_eq_self.2]
   ·intro x hx;simp;exact fun e=>b0 (e ▸ hx)
   ·intro x hx;simp;exact fun e=>an (e ▸ hx)
  have aq : (rem ops.size (aa.setIfInBounds i true)).length≤ai:=by
   rw[ak];have:(rem ops.size aa).length=js.length+ks.length+1:=by rw[ab];simp;omega
   simp;omega
  have a2 : ∀ k,(aa.setIfInBounds i true).getD k false=true→∀ e∈V6 ops k,(aa.setIfInBounds i true).getD e false=true:=by
   intro k a4 e he;by_cases bn:i=k
   ·subst bn;exact getD_set_true (av e he)
   ·rw[getD_set_ne false bn] at a4;exact getD_set_true (ba k a4 e he)
  have a3:i<aa.size:=o_
  unfold wpOp;rw[ho];simp only;unfold ZH at al;rw[ah,Zh] at al;unfold ZO at al;obtain⟨b,hw,al⟩:=Za al;rw[Zxu hS hg hw];rw[bz] at al;cases b with
  | true=>
   simp only[Km] at al ⊢;obtain⟨ce,b6,bg,rfl⟩:=XF al;refine .inl (ZyK hC hS bx ap a0 bg (ZeQ b6) _ _ fun u w' hp'=>?_);obtain⟨I2,Γ2,b1,b2,b3,b4,b5⟩:=hp';refine ih _ _ I2 Γ2 _ _ (by simpa using am) a2 aq (b5.more (ZqH a3)) (VI.cpre (hp:=s.2) b1 hc) (hk.trans b2) (fun x hx=>?_) (hf.trans b4) ⟨r2,by rw[ak];exact bj,bk.trans ay⟩
   ·rcases b3 x hx with h | h
    ·exact ag x h
    ·exact .inr h
  | false=>
   simp only[Ka,Kn] at al ⊢;cases al;obtain⟨I2,Γ2,b1,b2,b3,b4,b5⟩:=hS.pure (U':=Zt6 nx (aa.setIfInBounds i true)) (v:=.tup []) (u:=undef) (dst:=o.dst) (fun id hu=>ZqH a3 id (.inl hu)) ZnI a0;refine ih _ _ I2 Γ2 _ _ (by simpa using am) a2 aq b5 (VI.cpre (hp:=s.2) b1 hc) (hk.trans b2) (fun x hx=>?_) (hf.trans b4) ⟨r2,by rw[ak];exact bj,bk.trans ay⟩
   ·rcases b3 x hx with h | h
    ·exact ag x h
    ·exact .inr h
theorem ZCV {I:Nat→Prop} {Γ:Gh} {U:Nat→Prop} {sl:Sl} {hp:Hp} {a:Act} {w:World} (h:Sim nt F A I Γ U sl hp a w):Sim nt F A I Γ U sl hp a w.drew where
 nt:=h.nt
 dfr:=h.dfr
 slots:=fun t=>(h.slots t).mono (Qj.refl Γ) (⟨fun _ h=>h,fun _ _=>rfl⟩:ZP I I w w.drew)
 objs:=fun id o hl=>(h.objs id o hl).mono (Qj.refl Γ) (⟨fun _ h=>h,fun _ _=>rfl⟩:ZP I I w w.drew) fun _ _=>⟨rfl,fun h=>h⟩
 inj:=fun i j o o' b hi hj aa ab=>h.inj i j o o' b hi hj (aa.back (h.objs i o hi) rfl fun _ _=>rfl) (ab.back (h.objs j o' hj) rfl fun _ _=>rfl)
 bound:=h.bound
 fresh:=h.fresh
 own:=h.own
 names:=h.names
 glob:=h.glob
theorem Zi4 (a:Act) (d:Option Nat) (u:Value):ZeZ (Zpw d []) a (a.put d u):=ZeZ.step (l:=[]) (fun _ _=>rfl)
theorem ZEn {P:Program} {o:Oper} {a:Act} {w:World} {K K' : Act→World→Prop} {Q Q' : Exit→Act→World→Prop} (h:∀ a' w,ZeZ (Zpw o.dst []) a a'→K a' w→K' a' w) (hN:∀ e a w,e≠.normal→Q e a w→Q' e a w) (hh:o.wp P a w K Q):o.wp P a w K' Q':=by
 unfold Oper.wp at *;generalize (execOp a.eval o).run P w=r at *;cases r with
 | ok n w' =>
  cases n<;>simp only[Oper.upon] at hh ⊢ <;>
   first
    | exact h _ _ (Zi4 _ _ _) hh
    | exact Calls.mono hh (fun e aa he=>by
      cases e<;>first | exact h _ _ (Zi4 _ _ _) he | exact hN _ _ _ (fun h=>by cases h) he | (obtain⟨a2,w2,h2⟩:=he;exact⟨a2,w2,hN _ _ _ (fun h=>by cases h) h2⟩))
    | exact Rows.mono hh (fun _ _ he=>h _ _ (Zi4 _ _ _) he)
 | halt x w'=>cases x<;>simp only[Oper.upon] at hh ⊢ <;> first | exact hh | exact hN _ _ _ (fun h=>by cases h) hh
theorem ZkC {P:Program} {ops:Array Oper} {Q Q' : Exit→Act→World→Prop} {ds:List Nat} (a0:Act) (hd:∀ (i:Nat) (o:Oper),ops[i]?=some o→∀ t,o.dst=some t→t∈ds) (hQ:∀ a w,ZeZ ds a0 a→Q .normal a w→Q' .normal a w) (hN:∀ e a w,e≠.normal→Q e a w→Q' e a w) :
  ∀ (ab:Nat) (aa:Array Bool) (a:Act) (w:World),ZeZ ds a0 a→wpAny P .any ops Q ab aa a w→wpAny P .any ops Q' ab aa a w
 | 0,_,a,w,hs,h=>⟨h.1,hQ a w hs h.2⟩
 | ab+1,aa,a,w,hs,h=>by
  refine⟨fun h0=>hQ a w hs (h.1 h0),fun i hi=>?_⟩;have h1:=h.2 i hi;unfold wpOp at h1 ⊢;cases ho:ops[i]? with
  | none=>rw[ho] at h1;exact ZkC a0 hd hQ hN ab _ a w hs h1
  | some o=>
   rw[ho] at h1;simp only at h1 ⊢;have ad:∀ a' w',ZeZ (Zpw o.dst []) a a'→wpAny P .any ops Q ab (aa.setIfInBounds i true) a' w'→wpAny P .any ops Q' ab (aa.setIfInBounds i true) a' w':=fun a' w' h2 h3=>
    ZkC a0 hd hQ hN ab _ a' w' (fun t ht=>by
     rw[h2 t fun hm=>?_]
     ·exact hs t ht
     ·cases hdd:o.dst with
      | none=>rw[hdd] at hm;cases hm
      | some k=>
       rw[hdd] at hm;simp only[Zpw,KD] at hm;subst hm;exact ht (hd i o ho _ hdd)) h3
   split
   ·rename_i hw;rw[Kg hw] at h1;rcases h1 with h1 | ⟨h1,h2⟩
    ·exact .inl (ZEn ad hN h1)
    ·obtain⟨a2,w2,h3⟩:=h2;exact .inr ⟨h1,a2,w2,hN _ _ _ (fun h=>by cases h) h3⟩
   ·rename_i hw;rw[Kd hw] at h1;exact ad _ _ (Zi4 _ _ _) h1
theorem Zt7:∀ {os:List CO} {i:Nat} {o:CO} {t:Nat},os[i]?=some o→o.dst=some t→t∈Jl os
 | [],i,o,t,h,_=>by simp at h
 | c :: os,0,o,t,h,hd=>by
  simp only[KX,Option.some.injEq] at h;subst h;simp only[Jl,hd,Zpw,Ke,true_or]
 | c :: os,i+1,o,t,h,hd=>by
  simp only[KY] at h;have:=Zt7 h hd;cases hc:c.dst<;>simp[Jl,hc,Zpw,this]
theorem ZkD {C:Orc} {M:Zr} (hm:P.follows .mixedOrders=true) (hC:Qy P C):VN P C M nt:=by
 intro F A Γ0 ops os nx m sl hp r I Γ a w Q id ad ae hv aa hS hc hQ;refine wp_region_any hm ?_;have af:os.length=ops.size:=by rw[Zdm ad];simp
 rw[ZkF C (Yq M) os nx os 0 false sl hp rfl] at hv;have ab:rem ops.size (Array.replicate ops.size false)=List.range ops.size:=by
  simp only[rem];refine List.filter_eq_self.2 fun i hi=>?_;have:=LB.1 hi;simp[this]
 show wpAny P .any ops Q ops.size (Array.replicate ops.size false) a w.drew;refine ZkC (Q:=fun e a' w'=>e=.normal∧Jn nt F A Γ0 I w { sl:=r.1,hp:=r.2,nx:=nx+64*ops.size,m:=m } a' w') (ds:=Jl os) a (fun i o ho t ht=>?_) (fun a' w' hs hq=>hQ a' w' hq.2 hs) (fun e a' w' he hq=>absurd hq.1 he) _ _ a _ (fun _ _=>rfl) ?_
 ·obtain⟨co,h1,h2⟩:=Zlv ad i o (by simpa using ho);exact Zt7 h1 ((ZfV h2).2.2.2.trans ht)
 refine ZBs (M:=Yq M) (fun _=>rfl) (Γ0:=Γ0) (F:=F) (A:=A) (m:=m) (I:=I) (w:=w) hC ad ae aa (fun a' w' hp=>⟨rfl,hp⟩) ops.size _ (sl,hp) I Γ a w.drew (by simp) ?_ (by rw[ab];simp) ?_ hc ⟨fun _ h=>h,fun _ _=>rfl⟩ (fun _ h=>.inl h) ⟨rfl,rfl,rfl,Kr _,fun _ _ _=>rfl⟩ ⟨r,?_,X0.refl r⟩
 ·intro k hk;exfalso
  have h1:=(Ut hk).1;simp at h1;simp[h1] at hk
 ·exact(ZCV hS).more fun id hu=>.inl hu
 ·rw[ab,List.range_eq_range',← af];exact hv
end
theorem Zlx {P:Program} {X:Fns} {M:Zr} (hm:P.follows .mixedOrders=true) (hX:Zfu P X M):Qy P (Zd X M):=
 ZoF hX fun _ _ hC=>ZkD hm hC
end Go.Abs
