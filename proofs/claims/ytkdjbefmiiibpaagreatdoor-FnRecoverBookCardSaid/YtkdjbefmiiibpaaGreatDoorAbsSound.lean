/- The abstract semantics and the model: regions,codes. Own text. -/
import Derived.Test.YtkdjbefmiiibpaaGreatDoorAbsCall4
import Derived.Orders
set_option linter.unusedVariables false
set_option linter.unusedSimpArgs false
namespace Go.Abs
open Go
def XQ (hp hp' : Hp) (n:Nat):Prop:=∀ id cs,id<n→lkp hp id=some (.box cs)→∃ cs',lkp hp' id=some (.box cs')
theorem XQ.refl (hp:Hp) (n:Nat):XQ hp hp n:=fun _ cs _ h=>⟨cs,h⟩
theorem XQ.trans {a b c:Hp} {n:Nat} (h:XQ a b n) (k:XQ b c n):XQ a c n:=fun id cs hn hl=>by
 obtain⟨cs',h1⟩:=h id cs hn hl
 exact k id cs' hn h1
def Wo (C:Orc):Prop:=∀ f as h r hs,C f as h=some (r,hs)→∀ (k:Nat) (cs:List AV),h[k]?=some (Zo.box cs)→∃ cs',hs[k]?=some (Zo.box cs')
theorem ZD:∀ (l:Hp) (hp:Hp) (id:Nat),(∀ o,(id,o)∉l)→lkp (Zg hp l) id=lkp hp id
 | [],hp,id,_=>rfl
 | (k,x) :: r,hp,id,h=>by
  simp only[Zg]
  rw[ZD r _ id fun o ho=>h o (List.mem_cons_of_mem _ ho),Qy,if_neg]
  intro e
  subst e
  exact h x (List.mem_cons_self ..)
structure ZfH (hp:Hp) (ce:Zc):Prop where
 dels:∀ id∈ce.eff.dels,∀ cs,lkp hp id≠some (.box cs)
 sets:∀ id o,(id,o)∈ce.eff.sets→(∃ cs,lkp hp id=some (.box cs))→∃ cs',o=.box cs'
theorem ZfH.keeps {hp:Hp} {ce:Zc} (h:ZfH hp ce) {base hi:Nat} (hok:Xl base hi ce.eff.adds=true) (dst:Option Nat) (sl:Sl):XQ hp (ce.on dst sl hp).2 base:=by
 intro id cs hn hl
 show ∃ cs',lkp (Zg (Zg (QH (Qu ce.eff.frz (Wg ce.gone hp)) ce.eff.dels) ce.eff.sets) ce.eff.adds) id=some (.box cs')
 rw[ZD _ _ _ (fun o ho=>by have:=(Jf hok id o ho).1;omega)]
 by_cases hs:∃ o,(id,o)∈ce.eff.sets
 ·obtain⟨o,ho⟩:=hs
  cases hq:lkp (Zg (QH (Qu ce.eff.frz (Wg ce.gone hp)) ce.eff.dels) ce.eff.sets) id with
  | none=>
   exfalso
   have key:∀ (l:Hp) (hp:Hp),(id,o)∈l→lkp (Zg hp l) id≠none:=by
    intro l
    induction l with
    | nil=>intro hp h;simp at h
    | cons q r ih=>
     intro hp hm
     obtain⟨k,x⟩:=q
     simp only[Zg]
     rcases List.mem_cons.1 hm with hm | hm
     ·cases hm
      by_cases hr:∃ o',(id,o')∈r
      ·intro hn
       obtain⟨o',ho'⟩:=hr
       have:∀ (l:Hp) (hp:Hp),(∃ v,lkp hp id=some v)→lkp (Zg hp l) id≠none:=by
        intro l
        induction l with
        | nil=>rintro hp ⟨v,hv⟩ hn;simp only[Zg] at hn;rw[hv] at hn;cases hn
        | cons q r ih=>
         rintro hp ⟨v,hv⟩
         obtain⟨k,x⟩:=q
         simp only[Zg]
         refine ih _ ?_
         rw[Qy]
         split
         ·exact⟨_,rfl⟩
         ·exact⟨v,hv⟩
       exact this r _ ⟨o,by rw[Qy,if_pos rfl]⟩ hn
      ·rw[ZD r _ id fun o' ho'=>hr ⟨o',ho'⟩,Qy,if_pos rfl]
       simp
     ·exact ih _ hm
   exact key _ _ ho hq
  | some o' =>
   rcases Ziq _ _ _ _ hq with hm | ⟨hm,_⟩
   ·obtain⟨cs',h1⟩:=h.sets id o' hm ⟨cs,hl⟩
    exact⟨cs',by rw[h1]⟩
   ·exact absurd ho (hm o)
 ·rw[ZD _ _ _ (fun o ho=>hs ⟨o,ho⟩),Uf _ _ _ (fun hd=>h.dels id hd cs hl),Qm,WD,hl]
  simp only[Option.map_some,YN,WK]
  split
  ·exact⟨_,rfl⟩
  ·exact⟨_,rfl⟩
theorem Ys {hp:Hp} {ce:Zc} (h1:ce.eff.dels=[]) (h2:ce.eff.sets=[]):ZfH hp ce:=
 ⟨fun id hid=>by rw[h1] at hid;simp at hid,fun id o ho=>by rw[h2] at ho;simp at ho⟩
theorem QE {hp:Hp} {v:AV} {ce:Zc} (h:QT v=some ce):ZfH hp ce:=by cases h;exact Ys rfl rfl
theorem Yk {hp:Hp} {v:Option AV} {ce:Zc} (h:WL v=some ce):ZfH hp ce:=by
 obtain⟨r,_,h⟩:=Za h
 exact QE h
theorem Zu0 {C:Orc} (hC:Wo C) {hp:Hp} {m:Nat→Bool} {base f:Nat} {avs:List AV} {ce:Zc} (h:Zdn C m hp base f avs=some ce):ZfH hp ce:=by
 unfold Zdn at h
 obtain⟨as,_,h⟩:=Za h
 unfold Zfe at h
 split at h
 ·obtain⟨⟨r,out⟩,h1,h⟩:=Za h
  unfold Za0 at h
  split at h
  ·cases h
  split at h
  ·cases h
  ·cases h
   refine⟨fun id hid=>by simp at hid,fun id o ho hb=>?_⟩
   obtain⟨k,o0,h2,h3,rfl⟩:=Zhc _ _ _ _ _ ho
   obtain⟨cs,hcs⟩:=hb
   have h4:((Zd3 hp (Xd hp (XO hp) (as.flatMap ZI) [])).map (ZaZ (Xd hp (XO hp) (as.flatMap ZI) [])))[k]?=some (ZaZ (Xd hp (XO hp) (as.flatMap ZI) []) (.box cs)):=by
    rw[List.getElem?_map,ZdU,h2]
    simp[hcs,Zlu]
   obtain⟨cs',h5⟩:=hC _ _ _ _ _ h1 k _ h4
   rw[h3] at h5
   cases h5
   exact⟨_,rfl⟩
 ·cases h
theorem Zke {hp:Hp} {s b base:Nat} {str flat:Bool} {x y:AV} {ef:Eff} (h1:Jd hp s b str flat base x y=some ef):ZfH hp { eff:=ef,gone:=[] }:=by
 unfold Jd at h1
 obtain⟨q,_,h1⟩:=Za h1
 split at h1
 ·unfold Ziz at h1
  split at h1
  ·split at h1
   ·cases h1;exact Ys rfl rfl
   ·cases h1
  ·split at h1
   ·cases h1
   ·unfold ZmC at h1
    split at h1
    ·rename_i hl
     split at h1
     ·cases h1
      refine⟨fun id hid cs hcs=>?_,fun id o ho=>by simp[Ziy] at ho⟩
      simp[Ziy] at hid
      rw[hid,hl] at hcs
      cases hcs
     ·cases h1
    ·cases h1
  ·split at h1
   ·cases h1
   ·split at h1
    ·unfold ZjB at h1
     split at h1
     ·rename_i hl
      split at h1
      ·cases h1
       refine⟨fun id hid cs hcs=>?_,fun id o ho=>by simp at ho⟩
       simp at hid
       rw[hid,hl] at hcs
       cases hcs
      ·cases h1
     ·cases h1
    ·unfold ZjA at h1
     split at h1
     ·rename_i hl
      split at h1
      ·cases h1
       refine⟨fun id hid cs hcs=>?_,fun id o ho=>by simp[Ziy] at ho⟩
       simp[Ziy] at hid
       rw[hid,hl] at hcs
       cases hcs
      ·cases h1
     ·cases h1
  ·cases h1
 ·cases h1
theorem ZpG {hp:Hp} {ns:Nat}:∀ {cs:List AV} {q:List D×List Nat},ZgA hp ns cs=some q→∀ id∈q.2,∀ ds,lkp hp id≠some (.box ds)
 | [],q,h,id,hid=>by simp only[ZgA] at h;cases h;simp at hid
 | c :: cs,q,h,id,hid=>by
  simp only[ZgA] at h
  obtain⟨q1,h1,h⟩:=Za h
  obtain⟨q2,h2,h⟩:=Za h
  split at h
  ·cases h
   simp only[List.mem_append] at hid
   rcases hid with hid | hid
   ·unfold Zfg at h1
    split at h1
    ·split at h1
     ·cases h1;simp at hid
     ·cases h1
    ·cases h1;simp at hid
    ·unfold Zfg.deepRow at h1
     split at h1
     ·rename_i hl
      split at h1
      ·cases h1
       simp at hid
       subst hid
       intro ds hds
       rw[hl] at hds;cases hds
      ·cases h1
     ·cases h1
    ·cases h1
   ·exact ZpG h2 id hid
  ·cases h
theorem ZkM {hp:Hp} {id:Nat} {q:Nat×Nat×List D} (h:ZkC (lkp hp id)=some q):∀ ds,lkp hp id≠some (.box ds):=by
 intro ds hds
 rw[hds] at h;cases h
theorem Zu1 {hp:Hp} {s b base:Nat} {str flat:Bool} {x y:AV} {ef:Eff} (h1:ZgB hp s b str flat base y x=some ef):ZfH hp { eff:=ef,gone:=[] }:=by
 unfold ZgB at h1
 split at h1
 ·split at h1
  ·cases h1
  ·obtain⟨q,_,h2⟩:=Za h1
   split at h2
   ·cases h2
   ·unfold ZkD at h2
    split at h2
    ·rename_i hl
     obtain⟨fl,_,h3⟩:=Za h2
     split at h3
     ·cases h3
      refine⟨fun id hid=>by simp at hid,fun id o ho hb=>?_⟩
      simp at ho
      obtain⟨cs,hcs⟩:=hb
      rw[ho.1,hl] at hcs
      cases hcs
     ·cases h3
    ·cases h2
 ·generalize hm:VE hp x++VE hp y=ms at h1
  have hrow:∀ k∈ms,∀ ds,lkp hp k≠some (.box ds):=by
   intro k hk ds hds
   rw[← hm] at hk
   have key:∀ z,k∈VE hp z→False:=by
    intro z hz
    unfold VE at hz
    split at hz
    ·split at hz
     ·rename_i hdp
      simp at hz;subst hz
      rw[hds] at hdp;cases hdp
     ·simp at hz
    ·simp at hz
   rcases List.mem_append.1 hk with hk | hk<;>exact key _ hk
  cases ms with
  | nil=>exact Zke h1
  | cons i r=>
   simp only[WN] at h1
   split at h1
   ·cases h1
   ·obtain⟨e0,h2,h1⟩:=Za h1
    cases h1
    have hbe:=Zke h2
    have hbox:∀ k ds,lkp hp k=some (.box ds)→lkp (meltIn hp (i :: r)) k=some (.box ds):=by
     intro k ds hk
     rw[Zan,hk]
     simp only[Option.map_some,Zd7,ite_self]
    refine⟨fun k hk ds hds=>?_,fun k o ho ⟨ds,hds⟩=>hbe.sets k o ho ⟨ds,hbox k ds hds⟩⟩
    rcases List.mem_append.1 hk with hk | hk
    ·exact hbe.dels k hk ds (hbox k ds hds)
    ·exact hrow k hk ds hds
theorem Zu2 {hp:Hp} {s b base:Nat} {x y:AV} {ce:Zc} (h:ZqV hp s b base x y=some ce):ZfH hp ce:=by
 unfold ZqV at h
 obtain⟨ef,h1,h⟩:=Za h
 cases h
 obtain⟨q,hq,h1⟩:=Za h1
 split at h1
 ·unfold Zfh at hq
  split at hq
  ·obtain⟨q2,h2,hq⟩:=Za hq
   cases hq
   unfold ZdA at h1
   split at h1
   ·split at h1
    ·cases h1
     refine⟨fun id hid=>?_,fun id o ho=>by simp at ho⟩
     simp at hid;subst hid
     exact ZkM h2
    ·cases h1
   ·obtain⟨q1,h3,h4⟩:=Za h1
    split at h4
    ·cases h4
     refine⟨fun id hid=>?_,fun id o ho=>by simp at ho⟩
     simp at hid
     rcases hid with rfl | rfl
     ·exact ZkM h3
     ·exact ZkM h2
    ·cases h4
   ·cases h1
  ·cases hq
 ·cases h1
theorem ZhB {C:Orc} {M:Zt} (hC:Wo C) {sl:Sl} {hp:Hp} {base:Nat} {c:COp} {ce:Zc} (h:vop C M sl hp base c=some ce):ZfH hp ce:=by
 cases c with
 | move x=>exact QE h
 | assign s x=>
  simp only[vop] at h
  unfold Zff at h
  split at h
  ·obtain⟨s,_,h⟩:=Za h;cases h;exact Ys rfl rfl
  ·exact QE h
 | pick c x y=>
  simp only[vop] at h
  unfold Zh6 at h
  split at h
  ·split at h<;>exact QE h
  ·cases h
 | alloc slc cs=>
  simp only[vop] at h
  unfold Zhl ZmD at h
  split at h
  ·split at h<;>first | (cases h;done) | (cases h;exact Ys rfl rfl)
  ·split at h<;>(cases h;exact Ys rfl rfl)
 | box x=>
  simp only[vop] at h
  unfold Zwz at h
  split at h
  ·cases h;exact Ys rfl rfl
  ·cases h
 | build zs ps=>
  simp only[vop] at h
  obtain⟨cs,_,h⟩:=Za h
  exact QE h
 | buildSl s xs=>
  simp only[vop] at h
  cases hx:evL sl xs with
  | nil=>rw[hx] at h;exact QE h
  | cons v vs=>
   rw[hx] at h
   obtain⟨q,_,h⟩:=Za h
   unfold ZwA at h
   split at h
   ·cases h;exact Ys rfl rfl
   ·cases h
 | load g s x=>exact Yk h
 | store slc s x y=>
  simp only[vop] at h
  obtain⟨ef,h1,h⟩:=Za h
  cases h
  unfold ZbI at h1
  split at h1
  ·unfold Zgx at h1
   split at h1
   ·rename_i hl
    split at h1
    ·split at h1
     ·cases h1
      exact⟨fun id hid=>by simp at hid,fun id o ho _=>by simp at ho;exact⟨_,ho.2⟩⟩
     ·cases h1
      exact⟨fun id hid=>by simp at hid,fun id o ho _=>by simp at ho;exact⟨_,ho.2⟩⟩
    ·cases h1
   ·cases h1
  ·unfold Zd0 at h1
   split at h1
   ·rename_i hl
    split at h1
    ·obtain⟨x,_,h1⟩:=Za h1
     obtain⟨ds,_,h1⟩:=Za h1
     unfold Zgy at h1
     split at h1
     ·cases h1
      refine⟨fun id hid=>by simp at hid,fun id o ho hb=>?_⟩
      simp at ho
      obtain⟨cs,hcs⟩:=hb
      rw[ho.1,hl] at hcs
      cases hcs
     ·cases h1
    ·cases h1
   ·cases h1
  ·cases h1
 | nilCheck x=>
  simp only[vop] at h
  unfold Za1 at h
  split at h<;>first | exact QE h | cases h
 | bin op eq x y=>
  simp only[vop] at h
  unfold ZiC at h
  split at h
  ·split at h
   ·exact Yk h
   ·cases h
  ·exact Yk h
 | un op x=>exact Yk h
 | eqA neg ks x y=>
  simp only[vop] at h
  unfold ZqU at h
  split at h
  ·obtain⟨r,_,h⟩:=Za h;exact QE h
  ·cases h
 | convI k x=>
  simp only[vop] at h
  unfold Abs.convI at h
  split at h<;>first | exact QE h | cases h
 | convS x=>
  simp only[vop] at h
  unfold Abs.convS at h
  split at h<;>first | exact QE h | cases h
 | fn f cs=>exact Yk h
 | make s b z l c=>
  simp only[vop] at h
  obtain⟨n,_,h⟩:=Za h
  obtain⟨m,_,h⟩:=Za h
  unfold Zpi at h
  split at h
  ·cases h;exact Ys rfl rfl
  ·cases h
 | slice s x lo hi=>exact Yk h
 | sliceS x lo hi=>exact Yk h
 | slice0 x hi mx=>exact Yk h
 | slice3 s x lo hi mx=>exact Yk h
 | stuck=>cases h
 | appDp s b f x y=>exact Zu2 h
 | asgDp s n x=>
  simp only[vop] at h
  unfold Abs.asgDp at h
  split at h
  ·cases h;exact Ys rfl rfl
  ·cases h
 | buildDp s n xs=>
  simp only[vop] at h
  unfold buildDp at h
  split at h
  ·obtain⟨q,h1,h⟩:=Za h
   split at h
   ·cases h
    exact⟨fun id hid=>ZpG h1 id hid,fun id o ho=>by simp at ho⟩
   ·cases h
  ·cases h
 | clear s z x=>
  simp only[vop] at h
  obtain⟨ef,h1,h⟩:=Za h
  cases h
  unfold Zfz at h1
  split at h1
  ·unfold ZiA at h1
   split at h1
   ·rename_i hl
    split at h1
    ·cases h1
     refine⟨fun id hid=>by simp at hid,fun id o ho hb=>?_⟩
     simp at ho
     obtain⟨cs,hcs⟩:=hb
     rw[ho.1,hl] at hcs
     cases hcs
    ·cases h1
   ·cases h1
  ·cases h1
 | shift off x=>
  simp only[vop] at h
  unfold WM at h
  split at h<;>first | exact QE h | cases h
 | part g s off x=>exact Yk h
 | iaS s x i=>
  simp only[vop] at h
  obtain⟨n,_,h⟩:=Za h
  unfold ZiD at h
  split at h
  ·exact Yk h
  ·cases h
 | iaA len s x i=>
  simp only[vop] at h
  obtain⟨n,_,h⟩:=Za h
  unfold ZnB at h
  split at h
  ·unfold WM at h
   split at h<;>first | exact QE h | cases h
  ·cases h
 | ixS x i=>
  simp only[vop] at h
  obtain⟨n,_,h⟩:=Za h
  unfold ZuP at h
  split at h
  ·unfold Zr6 at h
   split at h
   ·obtain⟨b,_,h⟩:=Za h;exact QE h
   ·cases h
  ·cases h
 | ixA g s len x i=>
  simp only[vop] at h
  obtain⟨n,_,h⟩:=Za h
  unfold ZwB at h
  split at h
  ·exact Yk h
  ·cases h
 | nth i x=>
  simp only[vop] at h
  unfold Zta at h
  split at h
  ·exact Yk h
  ·cases h
 | len x=>
  simp only[vop] at h
  obtain⟨n,_,h⟩:=Za h
  exact QE h
 | lenS x=>
  simp only[vop] at h
  obtain⟨n,_,h⟩:=Za h
  exact QE h
 | append s b str flat x y=>
  simp only[vop] at h
  unfold Ztb at h
  obtain⟨ef,h1,h⟩:=Za h
  cases h
  exact Zu1 h1
 | min x y=>
  simp only[vop] at h
  unfold Zlw at h
  split at h
  ·split at h
   ·exact QE h
   ·cases h
  ·cases h
 | max x y=>
  simp only[vop] at h
  unfold Zlx at h
  split at h
  ·split at h
   ·exact QE h
   ·cases h
  ·cases h
 | call f as=>
  simp only[vop] at h
  unfold Zd8 at h
  split at h
  ·exact Zu0 hC h
  ·cases h
end Go.Abs
