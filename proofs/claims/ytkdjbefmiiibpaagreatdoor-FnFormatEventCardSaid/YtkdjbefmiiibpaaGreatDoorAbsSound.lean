/- The abstract semantics and the model: regions,codes. Own text. -/
import Derived.Test.YtkdjbefmiiibpaaGreatDoorAbsCall4
import Derived.Orders
set_option linter.unusedVariables false
set_option linter.unusedSimpArgs false
namespace Go.Abs
open Go
def XB (hp hp' : Hp) (n:Nat):Prop:=∀ id cs,id<n→lkp hp id=some (.box cs)→∃ cs',lkp hp' id=some (.box cs')
theorem XB.refl (hp:Hp) (n:Nat):XB hp hp n:=fun _ cs _ h=>⟨cs,h⟩
theorem XB.trans {a b c:Hp} {n:Nat} (h:XB a b n) (k:XB b c n):XB a c n:=fun id cs hn hl=>by
 obtain⟨cs',h1⟩:=h id cs hn hl
 exact k id cs' hn h1
def Wr (C:Orc):Prop:=∀ f as h r hs,C f as h=some (r,hs)→∀ (k:Nat) (cs:List AV),h[k]?=some (Zl.box cs)→∃ cs',hs[k]?=some (Zl.box cs')
theorem Zz:∀ (l:Hp) (hp:Hp) (id:Nat),(∀ o,(id,o)∉l)→lkp (Zf hp l) id=lkp hp id
 | [],hp,id,_=>rfl
 | (k,x) :: r,hp,id,h=>by
  simp only[Zf]
  rw[Zz r _ id fun o ho=>h o (List.mem_cons_of_mem _ ho),Qs,if_neg]
  intro e
  subst e
  exact h x (List.mem_cons_self ..)
structure Zc4 (hp:Hp) (ce:Zb):Prop where
 dels:∀ id∈ce.eff.dels,∀ cs,lkp hp id≠some (.box cs)
 sets:∀ id o,(id,o)∈ce.eff.sets→(∃ cs,lkp hp id=some (.box cs))→∃ cs',o=.box cs'
theorem Zc4.keeps {hp:Hp} {ce:Zb} (h:Zc4 hp ce) {base hi:Nat} (hok:Q7 base hi ce.eff.adds=true) (dst:Option Nat) (sl:Sl):XB hp (ce.on dst sl hp).2 base:=by
 intro id cs hn hl
 show ∃ cs',lkp (Zf (Zf (Qz (Qq ce.eff.frz (Vf ce.gone hp)) ce.eff.dels) ce.eff.sets) ce.eff.adds) id=some (.box cs')
 rw[Zz _ _ _ (fun o ho=>by have:=(Uq hok id o ho).1;omega)]
 by_cases hs:∃ o,(id,o)∈ce.eff.sets
 ·obtain⟨o,ho⟩:=hs
  cases hq:lkp (Zf (Qz (Qq ce.eff.frz (Vf ce.gone hp)) ce.eff.dels) ce.eff.sets) id with
  | none=>
   exfalso
   have key:∀ (l:Hp) (hp:Hp),(id,o)∈l→lkp (Zf hp l) id≠none:=by
    intro l
    induction l with
    | nil=>intro hp h;simp at h
    | cons q r ih=>
     intro hp hm
     obtain⟨k,x⟩:=q
     simp only[Zf]
     rcases List.mem_cons.1 hm with hm | hm
     ·cases hm
      by_cases hr:∃ o',(id,o')∈r
      ·intro hn
       obtain⟨o',ho'⟩:=hr
       have:∀ (l:Hp) (hp:Hp),(∃ v,lkp hp id=some v)→lkp (Zf hp l) id≠none:=by
        intro l
        induction l with
        | nil=>rintro hp ⟨v,hv⟩ hn;simp only[Zf] at hn;rw[hv] at hn;cases hn
        | cons q r ih=>
         rintro hp ⟨v,hv⟩
         obtain⟨k,x⟩:=q
         simp only[Zf]
         refine ih _ ?_
         rw[Qs]
         split
         ·exact⟨_,rfl⟩
         ·exact⟨v,hv⟩
       exact this r _ ⟨o,by rw[Qs,if_pos rfl]⟩ hn
      ·rw[Zz r _ id fun o' ho'=>hr ⟨o',ho'⟩,Qs,if_pos rfl]
       simp
     ·exact ih _ hm
   exact key _ _ ho hq
  | some o' =>
   rcases Zfb _ _ _ _ hq with hm | ⟨hm,_⟩
   ·obtain⟨cs',h1⟩:=h.sets id o' hm ⟨cs,hl⟩
    exact⟨cs',by rw[h1]⟩
   ·exact absurd ho (hm o)
 ·rw[Zz _ _ _ (fun o ho=>hs ⟨o,ho⟩),Wl _ _ _ (fun hd=>h.dels id hd cs hl),Qi,VC,hl]
  simp only[Option.map_some,X8,VR]
  split
  ·exact⟨_,rfl⟩
  ·exact⟨_,rfl⟩
theorem XX {hp:Hp} {ce:Zb} (h1:ce.eff.dels=[]) (h2:ce.eff.sets=[]):Zc4 hp ce:=
 ⟨fun id hid=>by rw[h1] at hid;simp at hid,fun id o ho=>by rw[h2] at ho;simp at ho⟩
theorem Qv {hp:Hp} {v:AV} {ce:Zb} (h:QY v=some ce):Zc4 hp ce:=by cases h;exact XX rfl rfl
theorem XQ {hp:Hp} {v:Option AV} {ce:Zb} (h:Wq v=some ce):Zc4 hp ce:=by
 obtain⟨r,_,h⟩:=Za h
 exact Qv h
theorem Zsr {C:Orc} (hC:Wr C) {hp:Hp} {m:Nat→Bool} {base f:Nat} {avs:List AV} {ce:Zb} (h:Zbk C m hp base f avs=some ce):Zc4 hp ce:=by
 unfold Zbk at h
 obtain⟨as,_,h⟩:=Za h
 unfold ZcA at h
 split at h
 ·obtain⟨⟨r,out⟩,h1,h⟩:=Za h
  unfold JY at h
  split at h
  ·cases h
  split at h
  ·cases h
  ·cases h
   refine⟨fun id hid=>by simp at hid,fun id o ho hb=>?_⟩
   obtain⟨k,o0,h2,h3,rfl⟩:=Zd7 _ _ _ _ _ ho
   obtain⟨cs,hcs⟩:=hb
   have h4:((Zcb hp (QX hp (Xz hp) (as.flatMap ZF) [])).map (JX (QX hp (Xz hp) (as.flatMap ZF) [])))[k]?=some (JX (QX hp (Xz hp) (as.flatMap ZF) []) (.box cs)):=by
    rw[List.getElem?_map,Zb2,h2]
    simp[hcs,Zh8]
   obtain⟨cs',h5⟩:=hC _ _ _ _ _ h1 k _ h4
   rw[h3] at h5
   cases h5
   exact⟨_,rfl⟩
 ·cases h
theorem ZgH {hp:Hp} {s b base:Nat} {str flat:Bool} {x y:AV} {ef:Eff} (h1:Un hp s b str flat base x y=some ef):Zc4 hp { eff:=ef,gone:=[] }:=by
 unfold Un at h1
 obtain⟨q,_,h1⟩:=Za h1
 split at h1
 ·unfold Zfk at h1
  split at h1
  ·split at h1
   ·cases h1;exact XX rfl rfl
   ·cases h1
  ·split at h1
   ·cases h1
   ·unfold Zi8 at h1
    split at h1
    ·rename_i hl
     split at h1
     ·cases h1
      refine⟨fun id hid cs hcs=>?_,fun id o ho=>by simp[Zfj] at ho⟩
      simp[Zfj] at hid
      rw[hid,hl] at hcs
      cases hcs
     ·cases h1
    ·cases h1
  ·split at h1
   ·cases h1
   ·split at h1
    ·unfold ZfY at h1
     split at h1
     ·rename_i hl
      split at h1
      ·cases h1
       refine⟨fun id hid cs hcs=>?_,fun id o ho=>by simp at ho⟩
       simp at hid
       rw[hid,hl] at hcs
       cases hcs
      ·cases h1
     ·cases h1
    ·unfold ZfX at h1
     split at h1
     ·rename_i hl
      split at h1
      ·cases h1
       refine⟨fun id hid cs hcs=>?_,fun id o ho=>by simp[Zfj] at ho⟩
       simp[Zfj] at hid
       rw[hid,hl] at hcs
       cases hcs
      ·cases h1
     ·cases h1
  ·cases h1
 ·cases h1
theorem ZmR {hp:Hp} {ns:Nat}:∀ {cs:List AV} {q:List D×List Nat},Zdz hp ns cs=some q→∀ id∈q.2,∀ ds,lkp hp id≠some (.box ds)
 | [],q,h,id,hid=>by simp only[Zdz] at h;cases h;simp at hid
 | c :: cs,q,h,id,hid=>by
  simp only[Zdz] at h
  obtain⟨q1,h1,h⟩:=Za h
  obtain⟨q2,h2,h⟩:=Za h
  split at h
  ·cases h
   simp only[List.mem_append] at hid
   rcases hid with hid | hid
   ·unfold ZcC at h1
    split at h1
    ·split at h1
     ·cases h1;simp at hid
     ·cases h1
    ·cases h1;simp at hid
    ·unfold ZcC.deepRow at h1
     split at h1
     ·rename_i hl
      split at h1
      ·cases h1
       simp at hid
       subst hid
       intro ds hds
       rw[hl] at hds;cases hds
      ·cases h1
     ·cases h1
    ·cases h1
   ·exact ZmR h2 id hid
  ·cases h
theorem Zhg {hp:Hp} {id:Nat} {q:Nat×Nat×List D} (h:Zg6 (lkp hp id)=some q):∀ ds,lkp hp id≠some (.box ds):=by
 intro ds hds
 rw[hds] at h;cases h
theorem Zss {hp:Hp} {s b base:Nat} {str flat:Bool} {x y:AV} {ef:Eff} (h1:ZdA hp s b str flat base y x=some ef):Zc4 hp { eff:=ef,gone:=[] }:=by
 unfold ZdA at h1
 split at h1
 ·split at h1
  ·cases h1
  ·obtain⟨q,_,h2⟩:=Za h1
   split at h2
   ·cases h2
   ·unfold Zg7 at h2
    split at h2
    ·rename_i hl
     obtain⟨fl,_,h3⟩:=Za h2
     split at h3
     ·cases h3
      refine⟨fun id hid=>by simp at hid,fun id o ho hb=>?_⟩
      simp at ho
      obtain⟨cs,hcs⟩:=hb
      rw[ho.1,hl] at hcs
      cases hcs
     ·cases h3
    ·cases h2
 ·generalize hm:YN hp x++YN hp y=ms at h1
  have hrow:∀ k∈ms,∀ ds,lkp hp k≠some (.box ds):=by
   intro k hk ds hds
   rw[← hm] at hk
   have key:∀ z,k∈YN hp z→False:=by
    intro z hz
    unfold YN at hz
    split at hz
    ·split at hz
     ·rename_i hdp
      simp at hz;subst hz
      rw[hds] at hdp;cases hdp
     ·simp at hz
    ·simp at hz
   rcases List.mem_append.1 hk with hk | hk<;>exact key _ hk
  cases ms with
  | nil=>exact ZgH h1
  | cons i r=>
   simp only[VT] at h1
   split at h1
   ·cases h1
   ·obtain⟨e0,h2,h1⟩:=Za h1
    cases h1
    have hbe:=ZgH h2
    have hbox:∀ k ds,lkp hp k=some (.box ds)→lkp (meltIn hp (i :: r)) k=some (.box ds):=by
     intro k ds hk
     rw[U8,hk]
     simp only[Option.map_some,Zcf,ite_self]
    refine⟨fun k hk ds hds=>?_,fun k o ho ⟨ds,hds⟩=>hbe.sets k o ho ⟨ds,hbox k ds hds⟩⟩
    rcases List.mem_append.1 hk with hk | hk
    ·exact hbe.dels k hk ds (hbox k ds hds)
    ·exact hrow k hk ds hds
theorem Zst {hp:Hp} {s b base:Nat} {x y:AV} {ce:Zb} (h:Zof hp s b base x y=some ce):Zc4 hp ce:=by
 unfold Zof at h
 obtain⟨ef,h1,h⟩:=Za h
 cases h
 obtain⟨q,hq,h1⟩:=Za h1
 split at h1
 ·unfold ZcD at hq
  split at hq
  ·obtain⟨q2,h2,hq⟩:=Za hq
   cases hq
   unfold ZbA at h1
   split at h1
   ·split at h1
    ·cases h1
     refine⟨fun id hid=>?_,fun id o ho=>by simp at ho⟩
     simp at hid;subst hid
     exact Zhg h2
    ·cases h1
   ·obtain⟨q1,h3,h4⟩:=Za h1
    split at h4
    ·cases h4
     refine⟨fun id hid=>?_,fun id o ho=>by simp at ho⟩
     simp at hid
     rcases hid with rfl | rfl
     ·exact Zhg h3
     ·exact Zhg h2
    ·cases h4
   ·cases h1
  ·cases hq
 ·cases h1
theorem Zet {C:Orc} {M:Zo} (hC:Wr C) {sl:Sl} {hp:Hp} {base:Nat} {c:COp} {ce:Zb} (h:vop C M sl hp base c=some ce):Zc4 hp ce:=by
 cases c with
 | move x=>exact Qv h
 | assign s x=>
  simp only[vop] at h
  unfold ZcB at h
  split at h
  ·obtain⟨s,_,h⟩:=Za h;cases h;exact XX rfl rfl
  ·exact Qv h
 | pick c x y=>
  simp only[vop] at h
  unfold ZeE at h
  split at h
  ·split at h<;>exact Qv h
  ·cases h
 | alloc slc cs=>
  simp only[vop] at h
  unfold Zee Zi9 at h
  split at h
  ·split at h<;>first | (cases h;done) | (cases h;exact XX rfl rfl)
  ·split at h<;>(cases h;exact XX rfl rfl)
 | box x=>
  simp only[vop] at h
  unfold ZtM at h
  split at h
  ·cases h;exact XX rfl rfl
  ·cases h
 | build zs ps=>
  simp only[vop] at h
  obtain⟨cs,_,h⟩:=Za h
  exact Qv h
 | buildSl s xs=>
  simp only[vop] at h
  cases hx:evL sl xs with
  | nil=>rw[hx] at h;exact Qv h
  | cons v vs=>
   rw[hx] at h
   obtain⟨q,_,h⟩:=Za h
   unfold ZtN at h
   split at h
   ·cases h;exact XX rfl rfl
   ·cases h
 | load g s x=>exact XQ h
 | store slc s x y=>
  simp only[vop] at h
  obtain⟨ef,h1,h⟩:=Za h
  cases h
  unfold Zap at h1
  split at h1
  ·unfold Zdw at h1
   split at h1
   ·rename_i hl
    split at h1
    ·split at h1
     ·cases h1
      exact⟨fun id hid=>by simp at hid,fun id o ho _=>by simp at ho;exact⟨_,ho.2⟩⟩
     ·cases h1
      exact⟨fun id hid=>by simp at hid,fun id o ho _=>by simp at ho;exact⟨_,ho.2⟩⟩
    ·cases h1
   ·cases h1
  ·unfold Zb8 at h1
   split at h1
   ·rename_i hl
    split at h1
    ·obtain⟨x,_,h1⟩:=Za h1
     obtain⟨ds,_,h1⟩:=Za h1
     unfold Zdx at h1
     split at h1
     ·cases h1
      refine⟨fun id hid=>by simp at hid,fun id o ho hb=>?_⟩
      simp at ho
      obtain⟨cs,hcs⟩:=hb
      rw[ho.1,hl] at hcs
      cases hcs
     ·cases h1
    ·cases h1
   ·cases h1
  ·cases h1
 | nilCheck x=>
  simp only[vop] at h
  unfold JZ at h
  split at h<;>first | exact Qv h | cases h
 | bin op eq x y=>
  simp only[vop] at h
  unfold ZkE at h
  split at h
  ·split at h
   ·exact XQ h
   ·cases h
  ·exact XQ h
 | un op x=>exact XQ h
 | eqA neg ks x y=>
  simp only[vop] at h
  unfold Zoe at h
  split at h
  ·obtain⟨r,_,h⟩:=Za h;exact Qv h
  ·cases h
 | convI k x=>
  simp only[vop] at h
  unfold Abs.convI at h
  split at h<;>first | exact Qv h | cases h
 | convS x=>
  simp only[vop] at h
  unfold Abs.convS at h
  split at h<;>first | exact Qv h | cases h
 | fn f cs=>exact XQ h
 | make s b z l c=>
  simp only[vop] at h
  obtain⟨n,_,h⟩:=Za h
  obtain⟨m,_,h⟩:=Za h
  unfold Zmu at h
  split at h
  ·cases h;exact XX rfl rfl
  ·cases h
 | slice s x lo hi=>exact XQ h
 | sliceS x lo hi=>exact XQ h
 | slice0 x hi mx=>exact XQ h
 | slice3 s x lo hi mx=>exact XQ h
 | stuck=>cases h
 | appDp s b f x y=>exact Zst h
 | asgDp s n x=>
  simp only[vop] at h
  unfold Abs.asgDp at h
  split at h
  ·cases h;exact XX rfl rfl
  ·cases h
 | buildDp s n xs=>
  simp only[vop] at h
  unfold buildDp at h
  split at h
  ·obtain⟨q,h1,h⟩:=Za h
   split at h
   ·cases h
    exact⟨fun id hid=>ZmR h1 id hid,fun id o ho=>by simp at ho⟩
   ·cases h
  ·cases h
 | clear s z x=>
  simp only[vop] at h
  obtain⟨ef,h1,h⟩:=Za h
  cases h
  unfold ZcX at h1
  split at h1
  ·unfold Zfl at h1
   split at h1
   ·rename_i hl
    split at h1
    ·cases h1
     refine⟨fun id hid=>by simp at hid,fun id o ho hb=>?_⟩
     simp at ho
     obtain⟨cs,hcs⟩:=hb
     rw[ho.1,hl] at hcs
     cases hcs
    ·cases h1
   ·cases h1
  ·cases h1
 | shift off x=>
  simp only[vop] at h
  unfold VS at h
  split at h<;>first | exact Qv h | cases h
 | part g s off x=>exact XQ h
 | iaS s x i=>
  simp only[vop] at h
  obtain⟨n,_,h⟩:=Za h
  unfold Zfn at h
  split at h
  ·exact XQ h
  ·cases h
 | iaA len s x i=>
  simp only[vop] at h
  obtain⟨n,_,h⟩:=Za h
  unfold ZjX at h
  split at h
  ·unfold VS at h
   split at h<;>first | exact Qv h | cases h
  ·cases h
 | ixS x i=>
  simp only[vop] at h
  obtain⟨n,_,h⟩:=Za h
  unfold Zsg at h
  split at h
  ·unfold Zo4 at h
   split at h
   ·obtain⟨b,_,h⟩:=Za h;exact Qv h
   ·cases h
  ·cases h
 | ixA g s len x i=>
  simp only[vop] at h
  obtain⟨n,_,h⟩:=Za h
  unfold ZtO at h
  split at h
  ·exact XQ h
  ·cases h
 | nth i x=>
  simp only[vop] at h
  unfold Zqx at h
  split at h
  ·exact XQ h
  ·cases h
 | len x=>
  simp only[vop] at h
  obtain⟨n,_,h⟩:=Za h
  exact Qv h
 | lenS x=>
  simp only[vop] at h
  obtain⟨n,_,h⟩:=Za h
  exact Qv h
 | append s b str flat x y=>
  simp only[vop] at h
  unfold Zqy at h
  obtain⟨ef,h1,h⟩:=Za h
  cases h
  exact Zss h1
 | min x y=>
  simp only[vop] at h
  unfold Zia at h
  split at h
  ·split at h
   ·exact Qv h
   ·cases h
  ·cases h
 | max x y=>
  simp only[vop] at h
  unfold Zib at h
  split at h
  ·split at h
   ·exact Qv h
   ·cases h
  ·cases h
 | call f as=>
  simp only[vop] at h
  unfold Zcg at h
  split at h
  ·exact Zsr hC h
  ·cases h
end Go.Abs
