/- The abstract semantics and the model: regions,codes. Own text. -/
import Derived.Test.YtemkonmgcoceaaaDoorAbsCall4
import Derived.Orders
set_option linter.unusedVariables false
set_option linter.unusedSimpArgs false
namespace Go.Abs
open Go
def QL (hp hp' : Hp) (n:Nat):Prop:=∀ id cs,id<n→lkp hp id=some (.box cs)→∃ cs',lkp hp' id=some (.box cs')
theorem QL.refl (hp:Hp) (n:Nat):QL hp hp n:=fun _ cs _ h=>⟨cs,h⟩
theorem QL.trans {a b c:Hp} {n:Nat} (h:QL a b n) (k:QL b c n):QL a c n:=fun id cs hn hl=>by
 obtain⟨cs',h1⟩:=h id cs hn hl
 exact k id cs' hn h1
def Yb (C:Orc):Prop:=∀ f as h r hs,C f as h=some (r,hs)→∀ (k:Nat) (cs:List AV),h[k]?=some (Zi.box cs)→∃ cs',hs[k]?=some (Zi.box cs')
theorem Zn:∀ (l:Hp) (hp:Hp) (id:Nat),(∀ o,(id,o)∉l)→lkp (Zc hp l) id=lkp hp id
 | [],hp,id,_=>rfl
 | (k,x) :: r,hp,id,h=>by
  simp only[Zc]
  rw[Zn r _ id fun o ho=>h o (List.mem_cons_of_mem _ ho),ZZ,if_neg]
  intro e
  subst e
  exact h x (List.mem_cons_self ..)
structure JC (hp:Hp) (ce:Zb):Prop where
 dels:∀ id∈ce.eff.dels,∀ cs,lkp hp id≠some (.box cs)
 sets:∀ id o,(id,o)∈ce.eff.sets→(∃ cs,lkp hp id=some (.box cs))→∃ cs',o=.box cs'
theorem JC.keeps {hp:Hp} {ce:Zb} (h:JC hp ce) {base hi:Nat} (hok:Qs base hi ce.eff.adds=true) (dst:Option Nat) (sl:Sl):QL hp (ce.on dst sl hp).2 base:=by
 intro id cs hn hl
 show ∃ cs',lkp (Zc (Zc (Z4 (ZX ce.eff.frz (XM ce.gone hp)) ce.eff.dels) ce.eff.sets) ce.eff.adds) id=some (.box cs')
 rw[Zn _ _ _ (fun o ho=>by have:=(YV hok id o ho).1;omega)]
 by_cases hs:∃ o,(id,o)∈ce.eff.sets
 ·obtain⟨o,ho⟩:=hs
  cases hq:lkp (Zc (Z4 (ZX ce.eff.frz (XM ce.gone hp)) ce.eff.dels) ce.eff.sets) id with
  | none=>
   exfalso
   have key:∀ (l:Hp) (hp:Hp),(id,o)∈l→lkp (Zc hp l) id≠none:=by
    intro l
    induction l with
    | nil=>intro hp h;simp at h
    | cons q r ih=>
     intro hp hm
     obtain⟨k,x⟩:=q
     simp only[Zc]
     rcases List.mem_cons.1 hm with hm | hm
     ·cases hm
      by_cases hr:∃ o',(id,o')∈r
      ·intro hn
       obtain⟨o',ho'⟩:=hr
       have:∀ (l:Hp) (hp:Hp),(∃ v,lkp hp id=some v)→lkp (Zc hp l) id≠none:=by
        intro l
        induction l with
        | nil=>rintro hp ⟨v,hv⟩ hn;simp only[Zc] at hn;rw[hv] at hn;cases hn
        | cons q r ih=>
         rintro hp ⟨v,hv⟩
         obtain⟨k,x⟩:=q
         simp only[Zc]
         refine ih _ ?_
         rw[ZZ]
         split
         ·exact⟨_,rfl⟩
         ·exact⟨v,hv⟩
       exact this r _ ⟨o,by rw[ZZ,if_pos rfl]⟩ hn
      ·rw[Zn r _ id fun o' ho'=>hr ⟨o',ho'⟩,ZZ,if_pos rfl]
       simp
     ·exact ih _ hm
   exact key _ _ ho hq
  | some o' =>
   rcases Zbj _ _ _ _ hq with hm | ⟨hm,_⟩
   ·obtain⟨cs',h1⟩:=h.sets id o' hm ⟨cs,hl⟩
    exact⟨cs',by rw[h1]⟩
   ·exact absurd ho (hm o)
 ·rw[Zn _ _ _ (fun o ho=>hs ⟨o,ho⟩),Yl _ _ _ (fun hd=>h.dels id hd cs hl),ZO,X0,hl]
  simp only[Option.map_some,Q2,X8]
  split
  ·exact⟨_,rfl⟩
  ·exact⟨_,rfl⟩
theorem QW {hp:Hp} {ce:Zb} (h1:ce.eff.dels=[]) (h2:ce.eff.sets=[]):JC hp ce:=
 ⟨fun id hid=>by rw[h1] at hid;simp at hid,fun id o ho=>by rw[h2] at ho;simp at ho⟩
theorem Z2 {hp:Hp} {v:AV} {ce:Zb} (h:Ql v=some ce):JC hp ce:=by cases h;exact QW rfl rfl
theorem QR {hp:Hp} {v:Option AV} {ce:Zb} (h:Yf v=some ce):JC hp ce:=by
 obtain⟨r,_,h⟩:=Za h
 exact Z2 h
theorem Zle {C:Orc} (hC:Yb C) {hp:Hp} {m:Nat→Bool} {base f:Nat} {avs:List AV} {ce:Zb} (h:W4 C m hp base f avs=some ce):JC hp ce:=by
 unfold W4 at h
 obtain⟨as,_,h⟩:=Za h
 unfold Jd at h
 split at h
 ·obtain⟨⟨r,out⟩,h1,h⟩:=Za h
  unfold VX at h
  split at h
  ·cases h
  split at h
  ·cases h
  ·cases h
   refine⟨fun id hid=>by simp at hid,fun id o ho hb=>?_⟩
   obtain⟨k,o0,h2,h3,rfl⟩:=Zat _ _ _ _ _ ho
   obtain⟨cs,hcs⟩:=hb
   have h4:((UO hp (Qj hp (QI hp) (as.flatMap Zs) [])).map (VV (Qj hp (QI hp) (as.flatMap Zs) [])))[k]?=some (VV (Qj hp (QI hp) (as.flatMap Zs) []) (.box cs)):=by
    rw[List.getElem?_map,UF,h2]
    simp[hcs,ZdG]
   obtain⟨cs',h5⟩:=hC _ _ _ _ _ h1 k _ h4
   rw[h3] at h5
   cases h5
   exact⟨_,rfl⟩
 ·cases h
theorem Zcu {hp:Hp} {s b base:Nat} {str flat:Bool} {x y:AV} {ef:Eff} (h1:YU hp s b str flat base x y=some ef):JC hp { eff:=ef,gone:=[] }:=by
 unfold YU at h1
 obtain⟨q,_,h1⟩:=Za h1
 split at h1
 ·unfold Zbt at h1
  split at h1
  ·split at h1
   ·cases h1;exact QW rfl rfl
   ·cases h1
  ·split at h1
   ·cases h1
   ·unfold Zer at h1
    split at h1
    ·rename_i hl
     split at h1
     ·cases h1
      refine⟨fun id hid cs hcs=>?_,fun id o ho=>by simp[Zbs] at ho⟩
      simp[Zbs] at hid
      rw[hid,hl] at hcs
      cases hcs
     ·cases h1
    ·cases h1
  ·split at h1
   ·cases h1
   ·split at h1
    ·unfold ZbX at h1
     split at h1
     ·rename_i hl
      split at h1
      ·cases h1
       refine⟨fun id hid cs hcs=>?_,fun id o ho=>by simp at ho⟩
       simp at hid
       rw[hid,hl] at hcs
       cases hcs
      ·cases h1
     ·cases h1
    ·unfold ZbW at h1
     split at h1
     ·rename_i hl
      split at h1
      ·cases h1
       refine⟨fun id hid cs hcs=>?_,fun id o ho=>by simp[Zbs] at ho⟩
       simp[Zbs] at hid
       rw[hid,hl] at hcs
       cases hcs
      ·cases h1
     ·cases h1
  ·cases h1
 ·cases h1
theorem Zhd {hp:Hp} {ns:Nat}:∀ {cs:List AV} {q:List D×List Nat},J7 hp ns cs=some q→∀ id∈q.2,∀ ds,lkp hp id≠some (.box ds)
 | [],q,h,id,hid=>by simp only[J7] at h;cases h;simp at hid
 | c :: cs,q,h,id,hid=>by
  simp only[J7] at h
  obtain⟨q1,h1,h⟩:=Za h
  obtain⟨q2,h2,h⟩:=Za h
  split at h
  ·cases h
   simp only[List.mem_append] at hid
   rcases hid with hid | hid
   ·unfold Jf at h1
    split at h1
    ·split at h1
     ·cases h1;simp at hid
     ·cases h1
    ·cases h1;simp at hid
    ·unfold Jf.deepRow at h1
     split at h1
     ·rename_i hl
      split at h1
      ·cases h1
       simp at hid
       subst hid
       intro ds hds
       rw[hl] at hds;cases hds
      ·cases h1
     ·cases h1
    ·cases h1
   ·exact Zhd h2 id hid
  ·cases h
theorem Zc1 {hp:Hp} {id:Nat} {q:Nat×Nat×List D} (h:ZcR (lkp hp id)=some q):∀ ds,lkp hp id≠some (.box ds):=by
 intro ds hds
 rw[hds] at h;cases h
theorem Zlf {hp:Hp} {s b base:Nat} {str flat:Bool} {x y:AV} {ef:Eff} (h1:J8 hp s b str flat base y x=some ef):JC hp { eff:=ef,gone:=[] }:=by
 unfold J8 at h1
 split at h1
 ·split at h1
  ·cases h1
  ·obtain⟨q,_,h2⟩:=Za h1
   split at h2
   ·cases h2
   ·unfold ZcS at h2
    split at h2
    ·rename_i hl
     obtain⟨fl,_,h3⟩:=Za h2
     split at h3
     ·cases h3
      refine⟨fun id hid=>by simp at hid,fun id o ho hb=>?_⟩
      simp at ho
      obtain⟨cs,hcs⟩:=hb
      rw[ho.1,hl] at hcs
      cases hcs
     ·cases h3
    ·cases h2
 ·generalize hm:Xt hp x++Xt hp y=ms at h1
  have hrow:∀ k∈ms,∀ ds,lkp hp k≠some (.box ds):=by
   intro k hk ds hds
   rw[← hm] at hk
   have key:∀ z,k∈Xt hp z→False:=by
    intro z hz
    unfold Xt at hz
    split at hz
    ·split at hz
     ·rename_i hdp
      simp at hz;subst hz
      rw[hds] at hdp;cases hdp
     ·simp at hz
    ·simp at hz
   rcases List.mem_append.1 hk with hk | hk<;>exact key _ hk
  cases ms with
  | nil=>exact Zcu h1
  | cons i r=>
   simp only[Ya] at h1
   split at h1
   ·cases h1
   ·obtain⟨e0,h2,h1⟩:=Za h1
    cases h1
    have hbe:=Zcu h2
    have hbox:∀ k ds,lkp hp k=some (.box ds)→lkp (meltIn hp (i :: r)) k=some (.box ds):=by
     intro k ds hk
     rw[Vm,hk]
     simp only[Option.map_some,US,ite_self]
    refine⟨fun k hk ds hds=>?_,fun k o ho ⟨ds,hds⟩=>hbe.sets k o ho ⟨ds,hbox k ds hds⟩⟩
    rcases List.mem_append.1 hk with hk | hk
    ·exact hbe.dels k hk ds (hbox k ds hds)
    ·exact hrow k hk ds hds
theorem Zlg {hp:Hp} {s b base:Nat} {x y:AV} {ce:Zb} (h:ZhV hp s b base x y=some ce):JC hp ce:=by
 unfold ZhV at h
 obtain⟨ef,h1,h⟩:=Za h
 cases h
 obtain⟨q,hq,h1⟩:=Za h1
 split at h1
 ·unfold Jg at hq
  split at hq
  ·obtain⟨q2,h2,hq⟩:=Za hq
   cases hq
   unfold Uh at h1
   split at h1
   ·split at h1
    ·cases h1
     refine⟨fun id hid=>?_,fun id o ho=>by simp at ho⟩
     simp at hid;subst hid
     exact Zc1 h2
    ·cases h1
   ·obtain⟨q1,h3,h4⟩:=Za h1
    split at h4
    ·cases h4
     refine⟨fun id hid=>?_,fun id o ho=>by simp at ho⟩
     simp at hid
     rcases hid with rfl | rfl
     ·exact Zc1 h3
     ·exact Zc1 h2
    ·cases h4
   ·cases h1
  ·cases hq
 ·cases h1
theorem ZaQ {C:Orc} {M:Zj} (hC:Yb C) {sl:Sl} {hp:Hp} {base:Nat} {c:COp} {ce:Zb} (h:vop C M sl hp base c=some ce):JC hp ce:=by
 cases c with
 | move x=>exact Z2 h
 | assign s x=>
  simp only[vop] at h
  unfold Je at h
  split at h
  ·obtain⟨s,_,h⟩:=Za h;cases h;exact QW rfl rfl
  ·exact Z2 h
 | pick c x y=>
  simp only[vop] at h
  unfold Za2 at h
  split at h
  ·split at h<;>exact Z2 h
  ·cases h
 | alloc slc cs=>
  simp only[vop] at h
  unfold ZaA Zes at h
  split at h
  ·split at h<;>first | (cases h;done) | (cases h;exact QW rfl rfl)
  ·split at h<;>(cases h;exact QW rfl rfl)
 | box x=>
  simp only[vop] at h
  unfold Zmk at h
  split at h
  ·cases h;exact QW rfl rfl
  ·cases h
 | build zs ps=>
  simp only[vop] at h
  obtain⟨cs,_,h⟩:=Za h
  exact Z2 h
 | buildSl s xs=>
  simp only[vop] at h
  cases hx:evL sl xs with
  | nil=>rw[hx] at h;exact Z2 h
  | cons v vs=>
   rw[hx] at h
   obtain⟨q,_,h⟩:=Za h
   unfold Zml at h
   split at h
   ·cases h;exact QW rfl rfl
   ·cases h
 | load g s x=>exact QR h
 | store slc s x y=>
  simp only[vop] at h
  obtain⟨ef,h1,h⟩:=Za h
  cases h
  unfold Wm at h1
  split at h1
  ·unfold J4 at h1
   split at h1
   ·rename_i hl
    split at h1
    ·split at h1
     ·cases h1
      exact⟨fun id hid=>by simp at hid,fun id o ho _=>by simp at ho;exact⟨_,ho.2⟩⟩
     ·cases h1
      exact⟨fun id hid=>by simp at hid,fun id o ho _=>by simp at ho;exact⟨_,ho.2⟩⟩
    ·cases h1
   ·cases h1
  ·unfold UL at h1
   split at h1
   ·rename_i hl
    split at h1
    ·obtain⟨x,_,h1⟩:=Za h1
     obtain⟨ds,_,h1⟩:=Za h1
     unfold J5 at h1
     split at h1
     ·cases h1
      refine⟨fun id hid=>by simp at hid,fun id o ho hb=>?_⟩
      simp at ho
      obtain⟨cs,hcs⟩:=hb
      rw[ho.1,hl] at hcs
      cases hcs
     ·cases h1
    ·cases h1
   ·cases h1
  ·cases h1
 | nilCheck x=>
  simp only[vop] at h
  unfold VY at h
  split at h<;>first | exact Z2 h | cases h
 | bin op eq x y=>
  simp only[vop] at h
  unfold ZfB at h
  split at h
  ·split at h
   ·exact QR h
   ·cases h
  ·exact QR h
 | un op x=>exact QR h
 | eqA neg ks x y=>
  simp only[vop] at h
  unfold ZhU at h
  split at h
  ·obtain⟨r,_,h⟩:=Za h;exact Z2 h
  ·cases h
 | convI k x=>
  simp only[vop] at h
  unfold Abs.convI at h
  split at h<;>first | exact Z2 h | cases h
 | convS x=>
  simp only[vop] at h
  unfold Abs.convS at h
  split at h<;>first | exact Z2 h | cases h
 | fn f cs=>exact QR h
 | make s b z l c=>
  simp only[vop] at h
  obtain⟨n,_,h⟩:=Za h
  obtain⟨m,_,h⟩:=Za h
  unfold ZgT at h
  split at h
  ·cases h;exact QW rfl rfl
  ·cases h
 | slice s x lo hi=>exact QR h
 | sliceS x lo hi=>exact QR h
 | slice0 x hi mx=>exact QR h
 | slice3 s x lo hi mx=>exact QR h
 | stuck=>cases h
 | appDp s b f x y=>exact Zlg h
 | asgDp s n x=>
  simp only[vop] at h
  unfold Abs.asgDp at h
  split at h
  ·cases h;exact QW rfl rfl
  ·cases h
 | buildDp s n xs=>
  simp only[vop] at h
  unfold buildDp at h
  split at h
  ·obtain⟨q,h1,h⟩:=Za h
   split at h
   ·cases h
    exact⟨fun id hid=>Zhd h1 id hid,fun id o ho=>by simp at ho⟩
   ·cases h
  ·cases h
 | clear s z x=>
  simp only[vop] at h
  obtain⟨ef,h1,h⟩:=Za h
  cases h
  unfold Jw at h1
  split at h1
  ·unfold Zbu at h1
   split at h1
   ·rename_i hl
    split at h1
    ·cases h1
     refine⟨fun id hid=>by simp at hid,fun id o ho hb=>?_⟩
     simp at ho
     obtain⟨cs,hcs⟩:=hb
     rw[ho.1,hl] at hcs
     cases hcs
    ·cases h1
   ·cases h1
  ·cases h1
 | shift off x=>
  simp only[vop] at h
  unfold X9 at h
  split at h<;>first | exact Z2 h | cases h
 | part g s off x=>exact QR h
 | iaS s x i=>
  simp only[vop] at h
  obtain⟨n,_,h⟩:=Za h
  unfold Zbw at h
  split at h
  ·exact QR h
  ·cases h
 | iaA len s x i=>
  simp only[vop] at h
  obtain⟨n,_,h⟩:=Za h
  unfold Zfi at h
  split at h
  ·unfold X9 at h
   split at h<;>first | exact Z2 h | cases h
  ·cases h
 | ixS x i=>
  simp only[vop] at h
  obtain⟨n,_,h⟩:=Za h
  unfold Zk0 at h
  split at h
  ·unfold ZiC at h
   split at h
   ·obtain⟨b,_,h⟩:=Za h;exact Z2 h
   ·cases h
  ·cases h
 | ixA g s len x i=>
  simp only[vop] at h
  obtain⟨n,_,h⟩:=Za h
  unfold Zmm at h
  split at h
  ·exact QR h
  ·cases h
 | nth i x=>
  simp only[vop] at h
  unfold ZjB at h
  split at h
  ·exact QR h
  ·cases h
 | len x=>
  simp only[vop] at h
  obtain⟨n,_,h⟩:=Za h
  exact Z2 h
 | lenS x=>
  simp only[vop] at h
  obtain⟨n,_,h⟩:=Za h
  exact Z2 h
 | append s b str flat x y=>
  simp only[vop] at h
  unfold ZjC at h
  obtain⟨ef,h1,h⟩:=Za h
  cases h
  exact Zlf h1
 | min x y=>
  simp only[vop] at h
  unfold ZdI at h
  split at h
  ·split at h
   ·exact Z2 h
   ·cases h
  ·cases h
 | max x y=>
  simp only[vop] at h
  unfold ZdJ at h
  split at h
  ·split at h
   ·exact Z2 h
   ·cases h
  ·cases h
 | call f as=>
  simp only[vop] at h
  unfold UT at h
  split at h
  ·exact Zle hC h
  ·cases h
end Go.Abs
