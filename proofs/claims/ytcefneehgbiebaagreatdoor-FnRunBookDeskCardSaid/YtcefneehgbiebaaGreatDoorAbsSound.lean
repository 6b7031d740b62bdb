/- Own text. -/
import Derived.Test.YtcefneehgbiebaaGreatDoorAbsCall4
import Derived.Orders
set_option linter.unusedVariables false
set_option linter.unusedSimpArgs false
namespace Go.Abs
open Go
def Xf (hp hp' : Hp) (n:Nat):Prop:=∀ id cs,id<n→lkp hp id=some (.box cs)→∃ cs',lkp hp' id=some (.box cs')
theorem Xf.refl (hp:Hp) (n:Nat):Xf hp hp n:=fun _ cs _ h=>⟨cs,h⟩
theorem Xf.trans {a b c:Hp} {n:Nat} (h:Xf a b n) (k:Xf b c n):Xf a c n:=fun id cs hn hl=>by
 obtain⟨cs',h1⟩:=h id cs hn hl;exact k id cs' hn h1
def WC (C:Orc):Prop:=∀ f as h r hs,C f as h=some (r,hs)→∀ (k:Nat) (cs:List AV),h[k]?=some (Zm.box cs)→∃ cs',hs[k]?=some (Zm.box cs')
theorem Zy:∀ (l:Hp) (hp:Hp) (id:Nat),(∀ o,(id,o)∉l)→lkp (Zh hp l) id=lkp hp id
 | [],hp,id,_=>rfl
 | (k,x) :: r,hp,id,h=>by
  simp only[Zh];rw[Zy r _ id fun o ho=>h o (KA _ ho),Qm,Ke];intro e;subst e;exact h x (K5 ..)
structure Zeq (hp:Hp) (ce:Zd):Prop where
 dels:∀ id∈ce.eff.dels,∀ cs,lkp hp id≠some (.box cs)
 sets:∀ id o,(id,o)∈ce.eff.sets→(∃ cs,lkp hp id=some (.box cs))→∃ cs',o=.box cs'
theorem Zeq.keeps {hp:Hp} {ce:Zd} (h:Zeq hp ce) {base hi:Nat} (ab:QZ base hi ce.eff.adds=true) (dst:Option Nat) (sl:Sl):Xf hp (ce.on dst sl hp).2 base:=by
 intro id cs hn hl;show ∃ cs',lkp (Zh (Zh (Qs (Qi ce.eff.frz (Ve ce.gone hp)) ce.eff.dels) ce.eff.sets) ce.eff.adds) id=some (.box cs');rw[Zy _ _ _ (fun o ho=>by have:=(Ul ab id o ho).1;omega)];by_cases hs:∃ o,(id,o)∈ce.eff.sets
 ·obtain⟨o,ho⟩:=hs;cases hq:lkp (Zh (Qs (Qi ce.eff.frz (Ve ce.gone hp)) ce.eff.dels) ce.eff.sets) id with
  | none=>
   exfalso
   have ad:∀ (l:Hp) (hp:Hp),(id,o)∈l→lkp (Zh hp l) id≠none:=by
    intro l
    induction l with
    | nil=>intro hp h;simp at h
    | cons q r ih=>
     intro hp hm;obtain⟨k,x⟩:=q;simp only[Zh];rcases Kd.1 hm with hm | hm
     ·cases hm;by_cases hr:∃ o',(id,o')∈r
      ·intro hn;obtain⟨o',aa⟩:=hr;have:∀ (l:Hp) (hp:Hp),(∃ v,lkp hp id=some v)→lkp (Zh hp l) id≠none:=by
        intro l
        induction l with
        | nil=>rintro hp ⟨v,hv⟩ hn;simp only[Zh] at hn;rw[hv] at hn;cases hn
        | cons q r ih=>
         rintro hp ⟨v,hv⟩
         obtain⟨k,x⟩:=q;simp only[Zh];refine ih _ ?_;rw[Qm];split
         ·exact⟨_,rfl⟩
         ·exact⟨v,hv⟩
       exact this r _ ⟨o,by rw[Qm,Kh rfl]⟩ hn
      ·rw[Zy r _ id fun o' aa=>hr ⟨o',aa⟩,Qm,Kh rfl];simp
     ·exact ih _ hm
   exact ad _ _ ho hq
  | some o' =>
   rcases ZgX _ _ _ _ hq with hm | ⟨hm,_⟩
   ·obtain⟨cs',h1⟩:=h.sets id o' hm ⟨cs,hl⟩;exact⟨cs',by rw[h1]⟩
   ·exact absurd ho (hm o)
 ·rw[Zy _ _ _ (fun o ho=>hs ⟨o,ho⟩),Wj _ _ _ (fun hd=>h.dels id hd cs hl),Qd,VI,hl];simp only[KI,XZ,VQ];split
  ·exact⟨_,rfl⟩
  ·exact⟨_,rfl⟩
theorem XG {hp:Hp} {ce:Zd} (h1:ce.eff.dels=[]) (h2:ce.eff.sets=[]):Zeq hp ce:=
 ⟨fun id aa=>by rw[h1] at aa;simp at aa,fun id o ho=>by rw[h2] at ho;simp at ho⟩
theorem Qp {hp:Hp} {v:AV} {ce:Zd} (h:QN v=some ce):Zeq hp ce:=by cases h;exact XG rfl rfl
theorem Xz {hp:Hp} {v:Option AV} {ce:Zd} (h:WB v=some ce):Zeq hp ce:=by
 obtain⟨r,_,h⟩:=Za h;exact Qp h
theorem ZvZ {C:Orc} (hC:WC C) {hp:Hp} {m:Nat→Bool} {base f:Nat} {aa:List AV} {ce:Zd} (h:Zcn C m hp base f aa=some ce):Zeq hp ce:=by
 unfold Zcn at h;obtain⟨as,_,h⟩:=Za h;unfold ZdY at h;split at h
 ·obtain⟨⟨r,out⟩,h1,h⟩:=Za h;unfold J8 at h;split at h
  ·cases h
  split at h
  ·cases h
  ·cases h;refine⟨fun id ab=>by simp at ab,fun id o ho hb=>?_⟩;obtain⟨k,o0,h2,h3,rfl⟩:=ZfF _ _ _ _ _ ho;obtain⟨cs,ad⟩:=hb;have h4:((Zc6 hp (QM hp (Xd hp) (as.flatMap ZD) [])).map (J7 (QM hp (Xd hp) (as.flatMap ZD) [])))[k]?=some (J7 (QM hp (Xd hp) (as.flatMap ZD) []) (.box cs)):=by
    rw[KX,ZcX,h2];simp[ad,Zkb]
   obtain⟨cs',h5⟩:=hC _ _ _ _ _ h1 k _ h4;rw[h3] at h5;cases h5;exact⟨_,rfl⟩
 ·cases h
theorem ZiO {hp:Hp} {s b base:Nat} {str flat:Bool} {x y:AV} {ef:Eff} (h1:Ui hp s b str flat base x y=some ef):Zeq hp { eff:=ef,gone:=[] }:=by
 unfold Ui at h1;obtain⟨q,_,h1⟩:=Za h1;split at h1
 ·unfold Zg8 at h1;split at h1
  ·split at h1
   ·cases h1;exact XG rfl rfl
   ·cases h1
  ·split at h1
   ·cases h1
   ·unfold Zlm at h1;split at h1
    ·rename_i hl;split at h1
     ·cases h1;refine⟨fun id aa cs ab=>?_,fun id o ho=>by simp[Zg7] at ho⟩;simp[Zg7] at aa;rw[aa,hl] at ab;cases ab
     ·cases h1
    ·cases h1
  ·split at h1
   ·cases h1
   ·split at h1
    ·unfold Zh9 at h1;split at h1
     ·rename_i hl;split at h1
      ·cases h1;refine⟨fun id aa cs ab=>?_,fun id o ho=>by simp at ho⟩;simp at aa;rw[aa,hl] at ab;cases ab
      ·cases h1
     ·cases h1
    ·unfold Zh8 at h1;split at h1
     ·rename_i hl;split at h1
      ·cases h1;refine⟨fun id aa cs ab=>?_,fun id o ho=>by simp[Zg7] at ho⟩;simp[Zg7] at aa;rw[aa,hl] at ab;cases ab
      ·cases h1
     ·cases h1
  ·cases h1
 ·cases h1
theorem Zpo {hp:Hp} {ns:Nat}:∀ {cs:List AV} {q:List D×List Nat},Ze5 hp ns cs=some q→∀ id∈q.2,∀ ds,lkp hp id≠some (.box ds)
 | [],q,h,id,aa=>by simp only[Ze5] at h;cases h;simp at aa
 | c :: cs,q,h,id,aa=>by
  simp only[Ze5] at h;obtain⟨q1,h1,h⟩:=Za h;obtain⟨q2,h2,h⟩:=Za h;split at h
  ·cases h;simp only[Kg] at aa;rcases aa with aa | aa
   ·unfold Zd0 at h1;split at h1
    ·split at h1
     ·cases h1;simp at aa
     ·cases h1
    ·cases h1;simp at aa
    ·unfold Zd0.deepRow at h1;split at h1
     ·rename_i hl;split at h1
      ·cases h1;simp at aa;subst aa;intro ds ab;rw[hl] at ab;cases ab
      ·cases h1
     ·cases h1
    ·cases h1
   ·exact Zpo h2 id aa
  ·cases h
theorem Zjq {hp:Hp} {id:Nat} {q:Nat×Nat×List D} (h:Zjf (lkp hp id)=some q):∀ ds,lkp hp id≠some (.box ds):=by
 intro ds aa;rw[aa] at h;cases h
theorem Zv0 {hp:Hp} {s b base:Nat} {str flat:Bool} {x y:AV} {ef:Eff} (h1:Ze6 hp s b str flat base y x=some ef):Zeq hp { eff:=ef,gone:=[] }:=by
 unfold Ze6 at h1;split at h1
 ·split at h1
  ·cases h1
  ·obtain⟨q,_,h2⟩:=Za h1;split at h2
   ·cases h2
   ·unfold Zjg at h2;split at h2
    ·rename_i hl;obtain⟨fl,_,h3⟩:=Za h2;split at h3
     ·cases h3;refine⟨fun id ah=>by simp at ah,fun id o ho hb=>?_⟩;simp at ho;obtain⟨cs,ae⟩:=hb;rw[ho.1,hl] at ae;cases ae
     ·cases h3
    ·cases h2
 ·generalize hm:YC hp x++YC hp y=ms at h1;have ad:∀ k∈ms,∀ ds,lkp hp k≠some (.box ds):=by
   intro k hk ds aa;rw[← hm] at hk;have ai:∀ z,k∈YC hp z→False:=by
    intro z hz;unfold YC at hz;split at hz
    ·split at hz
     ·rename_i af;simp at hz;subst hz;rw[aa] at af;cases af
     ·simp at hz
    ·simp at hz
   rcases Kg.1 hk with hk | hk<;>exact ai _ hk
  cases ms with
  | nil=>exact ZiO h1
  | cons i r=>
   simp only[VS] at h1;split at h1
   ·cases h1
   ·obtain⟨e0,h2,h1⟩:=Za h1;cases h1;have ag:=ZiO h2;have ab:∀ k ds,lkp hp k=some (.box ds)→lkp (meltIn hp (i :: r)) k=some (.box ds):=by
     intro k ds hk;rw[Jx,hk];simp only[KI,Zda,ite_self]
    refine⟨fun k hk ds aa=>?_,fun k o ho ⟨ds,aa⟩=>ag.sets k o ho ⟨ds,ab k ds aa⟩⟩;rcases Kg.1 hk with hk | hk
    ·exact ag.dels k hk ds (ab k ds aa)
    ·exact ad k hk ds aa
theorem Zv1 {hp:Hp} {s b base:Nat} {x y:AV} {ce:Zd} (h:Zre hp s b base x y=some ce):Zeq hp ce:=by
 unfold Zre at h;obtain⟨ef,h1,h⟩:=Za h;cases h;obtain⟨q,hq,h1⟩:=Za h1;split at h1
 ·unfold Zd1 at hq;split at hq
  ·obtain⟨q2,h2,hq⟩:=Za hq;cases hq;unfold Zcz at h1;split at h1
   ·split at h1
    ·cases h1;refine⟨fun id aa=>?_,fun id o ho=>by simp at ho⟩;simp at aa;subst aa;exact Zjq h2
    ·cases h1
   ·obtain⟨q1,h3,h4⟩:=Za h1;split at h4
    ·cases h4;refine⟨fun id aa=>?_,fun id o ho=>by simp at ho⟩;simp at aa;rcases aa with rfl | rfl
     ·exact Zjq h3
     ·exact Zjq h2
    ·cases h4
   ·cases h1
  ·cases hq
 ·cases h1
theorem ZfZ {C:Orc} {M:Zp} (hC:WC C) {sl:Sl} {hp:Hp} {base:Nat} {c:COp} {ce:Zd} (h:vop C M sl hp base c=some ce):Zeq hp ce:=by
 cases c with
 | move x=>exact Qp h
 | assign s x=>
  simp only[vop] at h;unfold ZdZ at h;split at h
  ·obtain⟨s,_,h⟩:=Za h;cases h;exact XG rfl rfl
  ·exact Qp h
 | pick c x y=>
  simp only[vop] at h;unfold ZgF at h;split at h
  ·split at h<;>exact Qp h
  ·cases h
 | alloc slc cs=>
  simp only[vop] at h;unfold ZfM Zln at h;split at h
  ·split at h<;>first | (cases h;done) | (cases h;exact XG rfl rfl)
  ·split at h<;>(cases h;exact XG rfl rfl)
 | box x=>
  simp only[vop] at h;unfold Zxr at h;split at h
  ·cases h;exact XG rfl rfl
  ·cases h
 | build zs ps=>
  simp only[vop] at h;obtain⟨cs,_,h⟩:=Za h;exact Qp h
 | buildSl s xs=>
  simp only[vop] at h;cases hx:evL sl xs with
  | nil=>rw[hx] at h;exact Qp h
  | cons v vs=>
   rw[hx] at h;obtain⟨q,_,h⟩:=Za h;unfold Zxs at h;split at h
   ·cases h;exact XG rfl rfl
   ·cases h
 | load g s x=>exact Xz h
 | store slc s x y=>
  simp only[vop] at h;obtain⟨ef,h1,h⟩:=Za h;cases h;unfold Za7 at h1;split at h1
  ·unfold Ze2 at h1;split at h1
   ·rename_i hl;split at h1
    ·split at h1
     ·cases h1;exact⟨fun id aa=>by simp at aa,fun id o ho _=>by simp at ho;exact⟨_,ho.2⟩⟩
     ·cases h1;exact⟨fun id aa=>by simp at aa,fun id o ho _=>by simp at ho;exact⟨_,ho.2⟩⟩
    ·cases h1
   ·cases h1
  ·unfold Zc3 at h1;split at h1
   ·rename_i hl;split at h1
    ·obtain⟨x,_,h1⟩:=Za h1;obtain⟨ds,_,h1⟩:=Za h1;unfold Ze3 at h1;split at h1
     ·cases h1;refine⟨fun id aa=>by simp at aa,fun id o ho hb=>?_⟩;simp at ho;obtain⟨cs,ab⟩:=hb;rw[ho.1,hl] at ab;cases ab
     ·cases h1
    ·cases h1
   ·cases h1
  ·cases h1
 | nilCheck x=>
  simp only[vop] at h;unfold J9 at h;split at h<;>first | exact Qp h | cases h
 | bin op eq x y=>
  simp only[vop] at h;unfold Zm7 at h;split at h
  ·split at h
   ·exact Xz h
   ·cases h
  ·exact Xz h
 | un op x=>exact Xz h
 | eqA neg ks x y=>
  simp only[vop] at h;unfold Zrd at h;split at h
  ·obtain⟨r,_,h⟩:=Za h;exact Qp h
  ·cases h
 | convI k x=>
  simp only[vop] at h;unfold Abs.convI at h;split at h<;>first | exact Qp h | cases h
 | convS x=>
  simp only[vop] at h;unfold Abs.convS at h;split at h<;>first | exact Qp h | cases h
 | fn f cs=>exact Xz h
 | make s b z l c=>
  simp only[vop] at h;obtain⟨n,_,h⟩:=Za h;obtain⟨m,_,h⟩:=Za h;unfold Zo1 at h;split at h
  ·cases h;exact XG rfl rfl
  ·cases h
 | slice s x lo hi=>exact Xz h
 | sliceS x lo hi=>exact Xz h
 | slice0 x hi mx=>exact Xz h
 | slice3 s x lo hi mx=>exact Xz h
 | stuck=>cases h
 | appDp s b f x y=>exact Zv1 h
 | asgDp s n x=>
  simp only[vop] at h;unfold Abs.asgDp at h;split at h
  ·cases h;exact XG rfl rfl
  ·cases h
 | buildDp s n xs=>
  simp only[vop] at h;unfold buildDp at h;split at h
  ·obtain⟨q,h1,h⟩:=Za h;split at h
   ·cases h;exact⟨fun id aa=>Zpo h1 id aa,fun id o ho=>by simp at ho⟩
   ·cases h
  ·cases h
 | clear s z x=>
  simp only[vop] at h;obtain⟨ef,h1,h⟩:=Za h;cases h;unfold Zei at h1;split at h1
  ·unfold Zg9 at h1;split at h1
   ·rename_i hl;split at h1
    ·cases h1;refine⟨fun id aa=>by simp at aa,fun id o ho hb=>?_⟩;simp at ho;obtain⟨cs,ab⟩:=hb;rw[ho.1,hl] at ab;cases ab
    ·cases h1
   ·cases h1
  ·cases h1
 | shift off x=>
  simp only[vop] at h;unfold VR at h;split at h<;>first | exact Qp h | cases h
 | part g s off x=>exact Xz h
 | iaS s x i=>
  simp only[vop] at h;obtain⟨n,_,h⟩:=Za h;unfold Zhb at h;split at h
  ·exact Xz h
  ·cases h
 | iaA len s x i=>
  simp only[vop] at h;obtain⟨n,_,h⟩:=Za h;unfold ZmI at h;split at h
  ·unfold VR at h;split at h<;>first | exact Qp h | cases h
  ·cases h
 | ixS x i=>
  simp only[vop] at h;obtain⟨n,_,h⟩:=Za h;unfold ZvN at h;split at h
  ·unfold ZsR at h;split at h
   ·obtain⟨b,_,h⟩:=Za h;exact Qp h
   ·cases h
  ·cases h
 | ixA g s len x i=>
  simp only[vop] at h;obtain⟨n,_,h⟩:=Za h;unfold Zxt at h;split at h
  ·exact Xz h
  ·cases h
 | nth i x=>
  simp only[vop] at h;unfold Zt6 at h;split at h
  ·exact Xz h
  ·cases h
 | len x=>
  simp only[vop] at h;obtain⟨n,_,h⟩:=Za h;exact Qp h
 | lenS x=>
  simp only[vop] at h;obtain⟨n,_,h⟩:=Za h;exact Qp h
 | append s b str flat x y=>
  simp only[vop] at h;unfold Zt7 at h;obtain⟨ef,h1,h⟩:=Za h;cases h;exact Zv0 h1
 | min x y=>
  simp only[vop] at h;unfold Zkd at h;split at h
  ·split at h
   ·exact Qp h
   ·cases h
  ·cases h
 | max x y=>
  simp only[vop] at h;unfold Zke at h;split at h
  ·split at h
   ·exact Qp h
   ·cases h
  ·cases h
 | call f as=>
  simp only[vop] at h;unfold Zdb at h;split at h
  ·exact ZvZ hC h
  ·cases h
end Go.Abs
