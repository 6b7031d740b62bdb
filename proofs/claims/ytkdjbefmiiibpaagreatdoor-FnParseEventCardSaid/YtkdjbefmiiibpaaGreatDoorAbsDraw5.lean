/- The abstract semantics: regions that draw are sound. Own text. -/
import Derived.Test.YtkdjbefmiiibpaaGreatDoorAbsDraw4
set_option linter.unusedVariables false
set_option linter.unusedSimpArgs false
namespace Go.Abs
open Go
section
variable {P:Program} {nt:Nat} {F A:Nat→Prop} {Γ0:Gh}
theorem Zy0 {I:Nat→Prop} {Γ:Gh} {U U' : Nat→Prop} {s r:Sl×Hp} {a:Act} {w:World} (h:Sim nt F A I Γ U s.1 s.2 a w) (hs:YO s r) (hu:∀ id,U id→U' id):Sim nt F A I Γ U' r.1 r.2 a w where
 nt:=h.nt
 dfr:=h.dfr
 slots:=fun t=>by rw[← hs.1 t];exact h.slots t
 objs:=fun id o hl=>h.objs id o (by rw[hs.2 id];exact hl)
 inj:=fun i j o o' b hi hj=>h.inj i j o o' b (by rw[hs.2 i];exact hi) (by rw[hs.2 j];exact hj)
 bound:=h.bound
 fresh:=h.fresh
 own:=h.own
 names:=fun id hid=>h.names id fun hx=>hid (hu id hx)
 glob:=h.glob
theorem Zux {ops:Array Oper} {os:List CO} (h:ZpC ops os=true) :
  (∀ i,i<ops.size→∀ e∈UB ops i,e<i)∧(∀ i,i<ops.size→∀ j,j<i→j∈UB ops i∨Ztj os j i=true) ∧
  (∀ i,i<ops.size→∀ j,j<i→ZkF ops 6 i j=true∨Ztl os j i=true) ∧
  (∀ (k:Nat) (o:CO),os[k]?=some o→∀ x∈ZT o.op,Wh x=true):=by
 unfold ZpC at h
 simp only[Bool.and_eq_true] at h
 obtain⟨⟨⟨h1,h2⟩,h3⟩,h4⟩:=h
 refine⟨fun i hi e he=>?_,fun i hi j hj=>?_,fun i hi j hj=>?_,fun k o ho x hx=>?_⟩
 ·have:=List.all_eq_true.1 (List.all_eq_true.1 h1 i (List.mem_range.2 hi)) e he
  simpa using this
 ·have:=List.all_eq_true.1 (List.all_eq_true.1 h2 i (List.mem_range.2 hi)) j (List.mem_range.2 hj)
  simpa using this
 ·have:=List.all_eq_true.1 h3 i (List.mem_range.2 hi)
  have:=List.all_eq_true.1 this j (List.mem_range.2 hj)
  simpa using this
 ·exact List.all_eq_true.1 (List.all_eq_true.1 h4 o (List.mem_of_getElem? ho)) x hx
theorem Znp {ops:Array Oper} {i:Nat} {o:Oper} (ho:ops[i]?=some o) {k:Nat}:k∈UB ops i↔∃ e∈o.after,Region.binds .any e=true∧e.on=k:=by
 simp only[UB,ho,List.mem_map,List.mem_filter,Array.mem_toList_iff]
 constructor
 ·rintro ⟨e,⟨h1,h2⟩,h3⟩;exact⟨e,h1,h2,h3⟩
 ·rintro ⟨e,h1,h2,h3⟩;exact⟨e,⟨h1,h2⟩,h3⟩
theorem Znq {ops:Array Oper} {listed:Array Bool} (hcl:∀ k,listed.getD k false=true→∀ e∈UB ops k,listed.getD e false=true):∀ (n:Nat) {i j:Nat},(∀ e∈UB ops i,listed.getD e false=true)→ZkF ops n i j=true→listed.getD j false=true
 | 0,i,j,hd,h=>by
  simp only[ZkF,List.contains_eq_mem,decide_eq_true_eq] at h
  exact hd j h
 | n+1,i,j,hd,h=>by
  simp only[ZkF,List.contains_eq_mem,Bool.or_eq_true,decide_eq_true_eq,List.any_eq_true] at h
  rcases h with h | ⟨z,hz,h⟩
  ·exact hd j h
  ·exact Znq hcl n (fun e he=>hcl z (hd z hz) e he) h
theorem Znr {os:List CO} {sl:Sl}:∀ {ps:List (Nat×Nat)},Zah os sl ps=true→∀ p∈ps,ZlG os sl p=true
 | [],_,p,hp=>by simp at hp
 | q :: ps,h,p,hp=>by
  simp only[Zah,Bool.and_eq_true] at h
  rcases List.mem_cons.1 hp with rfl | hp
  ·exact h.1
  ·exact Znr h.2 p hp
theorem Zs2 {sl sl' : Sl} (h:∀ t,gs sl t=gs sl' t) (d:Option Nat) (a b:COp):Zar sl d a b=Zar sl' d a b:=by
 have e:∀ x:Opd,evO sl x=evO sl' x:=fun x=>by cases x<;>simp only[evO];exact h _
 have f:∀ (id:Nat) (xs:List Opd),Ye sl id xs=Ye sl' id xs:=by
  intro id xs
  induction xs with
  | nil=>rfl
  | cons x xs ih=>simp only[Ye,e,ih]
 have g1:∀ xs:List Opd,okL sl xs=okL sl' xs:=by
  intro xs
  induction xs with
  | nil=>rfl
  | cons x xs ih=>simp only[okL,e,ih]
 have g2:∀ (zs:List Opd) (v:AV),Zef sl zs v=Zef sl' zs v:=by
  intro zs v
  cases v<;>simp only[Zef]
  exact f _ _
 have g3:∀ zs xs:List Opd,ZiH sl zs xs=ZiH sl' zs xs:=by
  intro zs xs
  induction xs with
  | nil=>rfl
  | cons x xs ih=>simp only[ZiH,e,ih,g2]
 have g4:okD sl d=okD sl' d:=by
  cases d<;>simp only[okD,h]
 cases ha:Wl a with
 | true=>cases a<;>first | (cases ha;done) | exact g4
 | false=>
  cases b with
  | store slc s x y=>
   have hx:∀ sl:Sl,Zar sl d a (.store slc s x y)=Zhx sl a (W4 (evO sl x)):=fun sl=>by cases a<;>first | (cases ha;done) | rfl
   rw[hx,hx,e]
   cases W4 (evO sl' x)<;>simp only[Zhx]
   rw[f]
  | append sz by_ str flat x y=>
   have hx:∀ sl:Sl,Zar sl d a (.append sz by_ str flat x y)=(Zag sl a (evO sl x)&&(flat || seenSrc sl a (evO sl y))):=fun sl=>by cases a<;>first | (cases ha;done) | rfl
   have q1:∀ v:AV,Zag sl a v=Zag sl' a v:=fun v=>by
    cases v<;>simp only[Zag]<;>first | exact f _ _ | skip
    case tup vs=>cases vs<;>rfl
   have q2:∀ v:AV,seenSrc sl a v=seenSrc sl' a v:=fun v=>by
    cases v<;>simp only[seenSrc]
    exact f _ _
   rw[hx,hx,e,e,q1,q2]
  | call g as=>
   have hx:∀ sl:Sl,Zar sl d a (.call g as)=(okL sl (ZT a)&&(okD sl d&&(okL sl as&&ZiH sl (ZT a) as))):=fun sl=>by cases a<;>first | (cases ha;done) | rfl
   rw[hx,hx,g1,g4,g1,g3]
  | _=>cases a<;>first | (cases ha;done) | rfl
theorem Zy1 {C:Orc} {M:Zt} (hC:QD P C) (hB:Wo C) {ops:Array Oper} {os:List CO} (hos:Q6 (ZnD P nt ops.toList) ops.toList=some os) (hok:ZpC ops os=true) {nx m:Nat} {r:Sl×Hp} (hseen:Zah os r.1 (Zed ops os)=true) {Q:Exit→Act→World→Prop}
  {I:Nat→Prop} {w:World} (hQ:∀ a' w',ZbA nt F A Γ0 I w { sl:=r.1,hp:=r.2,nx:=nx+64*ops.size,m:=m } a' w'→Q .normal a' w') :
  ∀ (fuel:Nat) (listed:Array Bool) (s:Sl×Hp) (I1:Nat→Prop) (Γ1:Gh) (a1:Act) (w1:World),listed.size=ops.size →
   (∀ k,listed.getD k false=true→∀ e∈UB ops k,listed.getD e false=true)→(rem ops.size listed).length≤fuel →
   Sim nt F A I1 Γ1 (ZrQ nx listed) s.1 s.2 a1 w1→ZhC Γ0 Γ1 s.2→Z3 I I1 w w1→(∀ b,I1 b→I b∨F b)→Fr F w w1→(hnx:∀ k b,Γ0 k=some (.box b)→k<nx) →
   (∃ r',Zhe C M os nx (rem ops.size listed) s=some r'∧YO r' r)→wpAny P .any ops Q fuel listed a1 w1:=by
 obtain⟨ok1,ok2,ok3,ok4⟩:=Zux hok
 have done:∀ (listed:Array Bool) (s:Sl×Hp) (I1:Nat→Prop) (Γ1:Gh) (a1:Act) (w1:World),listed.size=ops.size→rem ops.size listed=[] →
   Sim nt F A I1 Γ1 (ZrQ nx listed) s.1 s.2 a1 w1→ZhC Γ0 Γ1 s.2→Z3 I I1 w w1→(∀ b,I1 b→I b∨F b)→Fr F w w1→(∃ r',Zhe C M os nx (rem ops.size listed) s=some r'∧YO r' r)→Q .normal a1 w1:=by
  intro listed s I1 Γ1 a1 w1 hsz hrem hS hc hk hsub hf hr
  obtain⟨r',hr1,hr2⟩:=hr
  rw[hrem] at hr1
  simp only[Zhe] at hr1
  cases hr1
  refine hQ a1 w1 ⟨I1,Γ1,?_,hk,hsub,hf,?_⟩
  ·intro k b hkb
   obtain⟨h1,cs,h2⟩:=hc k b hkb
   exact⟨h1,cs,by show lkp r.2 k=_;rw[← hr2.2 k];exact h2⟩
  ·refine Zy0 hS hr2 fun id hu=>?_
   rcases hu with hu | ⟨k,hk1,hk2,hk3⟩
   ·show id<nx+64*ops.size;omega
   ·have:=(Zad hk1).1
    show id<nx+64*ops.size;omega
 have ready0:∀ (listed:Array Bool),listed.size=ops.size→Region.ready .any ops listed=[]→rem ops.size listed=[]:=by
  intro listed hsz hr
  cases hrem:rem ops.size listed with
  | nil=>rfl
  | cons i l=>
   exfalso
   have hi:i∈rem ops.size listed:=by rw[hrem];simp
   obtain⟨hin,hil⟩:=Zjv.1 hi
   have hsmall:∀ j,j<i→listed.getD j false=true:=by
    intro j hj
    have hjn:j<ops.size:=by omega
    have hnj:j∉rem ops.size listed:=by
     intro hm
     have hp:=Zo2 ops.size listed
     rw[hrem] at hm hp
     rcases List.mem_cons.1 hm with rfl | hm
     ·omega
     ·have:=(List.pairwise_cons.1 hp).1 j hm;omega
    rw[Zjv] at hnj
    have hlt:j<listed.size:=by omega
    simp only[hjn,true_and] at hnj
    simp[hlt] at hnj ⊢
    exact hnj
   have hir:i∈Region.ready .any ops listed:=by
    refine mem_ready.2 ⟨hil,ops[i],by simp[hin],fun e he hb=>?_⟩
    refine hsmall _ (ok1 i hin e.on ?_)
    exact(Znp (by simp[hin])).2 ⟨e,he,hb,rfl⟩
   rw[hr] at hir
   cases hir
 intro fuel
 induction fuel with
 | zero=>
  intro listed s I1 Γ1 a1 w1 hsz hcl hfu hS hc hk hsub hf hnx hr
  have hrem:rem ops.size listed=[]:=List.eq_nil_of_length_eq_zero (by omega)
  refine⟨?_,done listed s I1 Γ1 a1 w1 hsz hrem hS hc hk hsub hf hr⟩
  cases hrd:Region.ready .any ops listed with
  | nil=>rfl
  | cons i l=>
   have hi:i∈Region.ready .any ops listed:=by rw[hrd];simp
   obtain⟨h1,o,ho,_⟩:=mem_ready.1 hi
   have:i∈rem ops.size listed:=Zjv.2 ⟨(Array.getElem?_eq_some_iff.1 ho).1,h1⟩
   rw[hrem] at this
   cases this
 | succ fuel ih=>
  intro listed s I1 Γ1 a1 w1 hsz hcl hfu hS hc hk hsub hf hnx hr
  refine⟨fun h0=>done listed s I1 Γ1 a1 w1 hsz (ready0 listed hsz h0) hS hc hk hsub hf hr,fun i hi=>?_⟩
  obtain⟨hil,o,ho,hall⟩:=mem_ready.1 hi
  have hin:i<ops.size:=(Array.getElem?_eq_some_iff.1 ho).1
  have hdep:∀ e∈UB ops i,listed.getD e false=true:=fun e he=>by
   obtain⟨e',h1,h2,rfl⟩:=(Znp ho).1 he
   exact hall e' h1 h2
  have himem:i∈rem ops.size listed:=Zjv.2 ⟨hin,hil⟩
  obtain⟨js,ks,hsplit⟩:=List.append_of_mem himem
  have hsorted:=Zo2 ops.size listed
  rw[hsplit] at hsorted
  have hnd:(rem ops.size listed).Nodup:=List.Pairwise.filter _ List.nodup_range
  rw[hsplit] at hnd
  have hjs:∀ j∈js,j<i∧listed.getD j true=false:=fun j hj=>by
   refine⟨(List.pairwise_append.1 hsorted).2.2 j hj i (by simp),?_⟩
   have:j∈rem ops.size listed:=by rw[hsplit];simp[hj]
   exact(Zjv.1 this).2
  have notListed:∀ j,listed.getD j true=false→listed.getD j false≠true:=fun j h1 h2=>by rw[(Zad h2).2] at h1;cases h1
  have hol:os.length=ops.size:=by rw[Zfc hos];simp
  obtain⟨co,hco,hcc⟩:=ZoW hos i o (by simpa using ho)
  obtain⟨hg,hop,hdst,hdd⟩:=ZkN hcc
  obtain⟨r',hr1,hr2⟩:=hr
  rw[hsplit] at hr1
  have hinotjs:i∉js:=fun hm=>by have:=(hjs i hm).1;omega
  have hfree:=Zo3 (nx:=nx) hil
  obtain⟨s',hs',r2,hr3,hr4⟩:=ZxR hC hos hco ok4 js ⟨F,A,I1,Γ1,a1,w1,hS⟩ hfree (fun j hj=>Zo3 (hjs j hj).2)
   hsorted (fun j hj=>by
    obtain⟨h1,h2⟩:=hjs j hj
    have hap:∃ oj,os[j]?=some oj∧Yr oj co=true:=by
     rcases ok2 i hin j h1 with h3 | h3
     ·exact absurd (hdep j h3) (notListed j h2)
     ·unfold Ztj at h3
      rw[hco] at h3
      split at h3
      ·rename_i x y h4 h5
       cases h5
       exact⟨x,h4,h3⟩
      ·cases h3
    obtain⟨oj,hoj,hap⟩:=hap
    refine⟨oj,hoj,hap,?_⟩
    have hnt:ZkF ops 6 i j=false:=by
     cases htd:ZkF ops 6 i j with
     | false=>rfl
     | true=>exact absurd (Znq hcl 6 hdep htd) (notListed j h2)
    have seen:∀ p,Zhw os j i=some p→∃ x y,os[p.1]?=some x∧os[p.2]?=some y∧Zar r'.1 x.dst x.op y.op=true:=by
     intro p hp
     have hmem:p∈Zed ops os:=by
      simp only[Zed,List.mem_flatMap,List.mem_range]
      refine⟨i,hin,j,h1,?_⟩
      rw[hnt,hp]
      simp[optP]
     have hsp:=Znr hseen _ hmem
     unfold ZlG at hsp
     split at hsp
     ·rename_i x y e1 e2
      exact⟨x,y,e1,e2,by rw[Zs2 hr2.1];exact hsp⟩
     ·cases hsp
    have hsj:Qb os j=CO.starts oj:=by simp only[Qb,hoj]
    have hsi:Qb os i=CO.starts co:=by simp only[Qb,hco]
    rcases ok3 i hin j h1 with h3 | h3
    ·rw[hnt] at h3;cases h3
    ·unfold Ztl at h3
     rw[hoj,hco] at h3
     simp only at h3
     cases hj' : Qb os j with
     | true=>
      rw[hj'] at h3
      simp only[if_true,ZA0,ZlF,Bool.or_eq_true,Bool.and_eq_true,Bool.not_eq_true'] at h3
      obtain⟨g1,⟨g2,g3⟩ | ⟨⟨⟨⟨g0,g2⟩,g3⟩,g4,g5⟩,g6⟩⟩:=h3
      ·obtain⟨x,y,e1,e2,e3⟩:=seen (i,j) (by unfold Zhw;rw[hoj,hco];simp[hj',g2])
       simp only at e1 e2
       rw[hco] at e1;cases e1
       refine .inr (.inl ⟨rfl,g1,g2,g3,?_⟩)
       cases hx:co.op<;>rw[hx] at g2 e3<;>first | (cases g2;done) | exact e3
      ·obtain⟨x,y,e1,e2,e3⟩:=seen (i,j) (by unfold Zhw;rw[hoj,hco];simp[hj',g2])
       simp only at e1 e2
       rw[hco] at e1;cases e1
       rw[hoj] at e2;cases e2
       exact .inr (.inr ⟨rfl,g1,g0,g2,g3,g4,g5,g6,e3⟩)
     | false=>
      rw[hj'] at h3
      simp only[Bool.false_eq_true,if_false,ZAZ,ZlF,Bool.or_eq_true,Bool.and_eq_true,Bool.not_eq_true'] at h3
      refine .inl ⟨rfl,fun hti=>?_⟩
      rcases h3 with h3 | ((h3 | ⟨h4,h5⟩) | ⟨h3,h4⟩) | ⟨⟨⟨⟨g0,g2⟩,g3⟩,g4,g5⟩,g6⟩
      ·rw[hti] at h3;cases h3
      ·exact .inl h3
      ·cases hcm:ZwO co.op with
       | true=>exact .inl rfl
       | false=>
        refine .inr (.inl ⟨h4,?_⟩)
        cases hhf:UM oj.op with
        | true=>exact .inl rfl
        | false=>
         rcases h5 with h5 | h5
         ·rw[hhf] at h5;cases h5
         ·refine .inr ⟨h5.1.2,h5.2.1,h5.2.2,?_⟩
          obtain⟨x,y,e1,e2,e3⟩:=seen (j,i) (by unfold Zhw;rw[hoj,hco];simp[hj',hti,h4,hhf])
          simp only at e1 e2
          rw[hoj] at e1;cases e1
          rw[hco] at e2;cases e2
          have h51:=h5.1.1
          cases hy:co.op<;>rw[hy] at h4 e3<;>first | (cases h4;done) | (cases hx:oj.op<;>rw[hx] at h51 e3<;>first | (cases h51;done) | exact e3)
      ·cases hng:Zhv co.op with
       | true=>exact .inr (.inr (.inl ⟨h3,rfl⟩))
       | false=>
        rcases h4 with h4 | h4
        ·rw[hng] at h4;cases h4
        ·cases hst:Zpz co.op with
         | true=>
          have:UM oj.op=true:=by cases hx:oj.op<;>rw[hx] at h3<;>first | (cases h3;done) | rfl
          exact .inr (.inl ⟨rfl,.inl this⟩)
         | false=>
          obtain⟨x,y,e1,e2,e3⟩:=seen (j,i) (by unfold Zhw;rw[hoj,hco];simp[hj',hti,h3,hng,hst])
          simp only at e1 e2
          rw[hoj] at e1;cases e1
          refine .inr (.inr (.inr (.inl ⟨h3,h4,?_⟩)))
          cases hx:oj.op<;>rw[hx] at h3 e3<;>first | (cases h3;done) | exact e3
      ·have hst:Zpz co.op=false:=by cases hy:co.op<;>rw[hy] at g2<;>first | (cases g2;done) | rfl
       obtain⟨x,y,e1,e2,e3⟩:=seen (j,i) (by unfold Zhw;rw[hoj,hco];simp[hj',hti,g2,g0,hst])
       simp only at e1 e2
       rw[hoj] at e1;cases e1
       rw[hco] at e2;cases e2
       exact .inr (.inr (.inr (.inr ⟨g0,g2,g3,g4,g5,g6,e3⟩))))
   (fun j hj=>by
    have:j∈rem ops.size listed:=by rw[hsplit];exact hj
    rw[hol];exact(Zjv.1 this).1) hr1
  have hrem' : rem ops.size (listed.setIfInBounds i true)=js++ks:=by
   rw[ZCM hsz,hsplit,List.filter_append,List.filter_cons]
   simp only[bne_self_eq_false,Bool.false_eq_true,if_false]
   have hnk:i∉ks:=by
    have:=(List.nodup_append.1 hnd).2.1
    exact(List.nodup_cons.1 this).1
   rw[List.filter_eq_self.2,List.filter_eq_self.2]
   ·intro x hx;simp;exact fun e=>hnk (e ▸ hx)
   ·intro x hx;simp;exact fun e=>hinotjs (e ▸ hx)
  have hlen' : (rem ops.size (listed.setIfInBounds i true)).length≤fuel:=by
   rw[hrem']
   have:(rem ops.size listed).length=js.length+ks.length+1:=by rw[hsplit];simp;omega
   simp;omega
  have hcl' : ∀ k,(listed.setIfInBounds i true).getD k false=true→∀ e∈UB ops k,(listed.setIfInBounds i true).getD e false=true:=by
   intro k hk1 e he
   by_cases hki:i=k
   ·subst hki;exact getD_set_true (hdep e he)
   ·rw[getD_set_ne false hki] at hk1
    exact getD_set_true (hcl k hk1 e he)
  have hlti:i<listed.size:=by omega
  unfold wpOp
  rw[ho]
  simp only
  unfold ZN at hs'
  rw[hco,Zf] at hs'
  unfold ZZ at hs'
  obtain⟨b,hw,hs'⟩:=Za hs'
  rw[Zu3 hS hg hw]
  rw[hdd] at hs'
  cases b with
  | true=>
   simp only[if_true] at hs' ⊢
   obtain⟨ce,hce,hokk,rfl⟩:=Xv hs'
   refine .inl (Zv7 hC hS hop hfree hdst hokk (Zcw hce) _ _ fun u w' hp'=>?_)
   obtain⟨I2,Γ2,b1,b2,b3,b4,b5⟩:=hp'
   have hkept:=(ZhB hB (Zcw hce)).keeps hokk o.dst s.1
   refine ih _ _ I2 Γ2 _ _ (by simpa using hsz) hcl' hlen' (b5.more (Zo4 hlti)) ?_ (hk.trans b2) (fun x hx=>?_) (hf.trans b4) hnx ⟨r2,by rw[hrem'];exact hr3,hr4.trans hr2⟩
   ·intro k bb hkb
    obtain⟨c1,cs,c2⟩:=hc k bb hkb
    exact⟨b1 k bb c1,hkept k cs (by have:=hnx k bb hkb;omega) c2⟩
   ·rcases b3 x hx with h | h
    ·exact hsub x h
    ·exact .inr h
  | false=>
   simp only[Bool.false_eq_true,if_false] at hs' ⊢
   cases hs'
   obtain⟨I2,Γ2,b1,b2,b3,b4,b5⟩:=hS.pure (U':=ZrQ nx (listed.setIfInBounds i true)) (v:=.tup []) (u:=undef) (dst:=o.dst) (fun id hu=>Zo4 hlti id (.inl hu)) ZmU hdst
   refine ih _ _ I2 Γ2 _ _ (by simpa using hsz) hcl' hlen' b5 ?_ (hk.trans b2) (fun x hx=>?_) (hf.trans b4) hnx ⟨r2,by rw[hrem'];exact hr3,hr4.trans hr2⟩
   ·intro k bb hkb
    obtain⟨c1,cs,c2⟩:=hc k bb hkb
    exact⟨b1 k bb c1,cs,c2⟩
   ·rcases b3 x hx with h | h
    ·exact hsub x h
    ·exact .inr h
theorem ZAH {I:Nat→Prop} {Γ:Gh} {U:Nat→Prop} {sl:Sl} {hp:Hp} {a:Act} {w:World} (h:Sim nt F A I Γ U sl hp a w):Sim nt F A I Γ U sl hp a w.drew where
 nt:=h.nt
 dfr:=h.dfr
 slots:=fun t=>(h.slots t).mono (XA.refl Γ) (⟨fun _ h=>h,fun _ _=>rfl⟩:Z3 I I w w.drew)
 objs:=fun id o hl=>(h.objs id o hl).mono (XA.refl Γ) (⟨fun _ h=>h,fun _ _=>rfl⟩:Z3 I I w w.drew) fun _ _=>⟨rfl,fun h=>h⟩
 inj:=h.inj
 bound:=h.bound
 fresh:=h.fresh
 own:=h.own
 names:=h.names
 glob:=h.glob
theorem Zhg {C:Orc} {M:Zt} (hm:P.follows .mixedOrders=true) (hC:QD P C) (hB:Wo C):Wp P C M nt:=by
 intro F A Γ0 ops os nx m sl hp r I Γ a w Q id hos hok hv hseen hS hc hQ
 refine wp_region_any hm ?_
 have hol:os.length=ops.size:=by rw[Zfc hos];simp
 rw[Zkv C M os nx os 0 false sl hp rfl] at hv
 have hall:rem ops.size (Array.replicate ops.size false)=List.range ops.size:=by
  simp only[rem]
  refine List.filter_eq_self.2 fun i hi=>?_
  have:=List.mem_range.1 hi
  simp[this]
 show wpAny P .any ops Q ops.size (Array.replicate ops.size false) a w.drew
 refine Zy1 (M:=M) (Γ0:=Γ0) (F:=F) (A:=A) (m:=m) (I:=I) (w:=w) hC hB hos hok hseen hQ ops.size _ (sl,hp) I Γ a w.drew (by simp) ?_ (by rw[hall];simp) ?_ hc ⟨fun _ h=>h,fun _ _=>rfl⟩ (fun _ h=>.inl h) ⟨rfl,rfl,rfl,Nat.le_refl _,fun _ _ _=>rfl⟩ ?_ ⟨r,?_,YO.refl r⟩
 ·intro k hk
  exfalso
  have h1:=(Zad hk).1
  simp at h1
  simp[h1] at hk
 ·exact(ZAH hS).more fun id hu=>.inl hu
 ·intro k b hkb
  obtain⟨h1,cs,h2⟩:=hc k b hkb
  exact hS.id_in h2
 ·rw[hall,List.range_eq_range',← hol];exact hv
end
theorem Zhh {P:Program} {X:Fns} {M:Zt} (hm:P.follows .mixedOrders=true) (hX:ZdD P X M):QD P (Zh X M):=
 ZnG hX fun _ _ hC hB=>Zhg hm hC hB
end Go.Abs
