/- The abstract semantics and the model: regions,codes. Own text. -/
import Derived.Test.YtpobhkoombldlaaGreatAbsCall4
import Derived.Orders
set_option linter.unusedVariables false
set_option linter.unusedSimpArgs false
namespace Go.Abs
open Go
def XG (hp hp' : Hp) (n:Nat):Prop:=∀ id cs,id<n→lkp hp id=some (.box cs)→∃ cs',lkp hp' id=some (.box cs')
theorem XG.refl (hp:Hp) (n:Nat):XG hp hp n:=fun _ cs _ h=>⟨cs,h⟩
theorem XG.trans {a b c:Hp} {n:Nat} (h:XG a b n) (k:XG b c n):XG a c n:=fun id cs hn hl=>by
 obtain⟨cs',h1⟩:=h id cs hn hl
 exact k id cs' hn h1
def V1 (C:Orc):Prop:=∀ f as h r hs,C f as h=some (r,hs)→∀ (k:Nat) (cs:List AV),h[k]?=some (Zt.box cs)→∃ cs',hs[k]?=some (Zt.box cs')
theorem ZD:∀ (l:Hp) (hp:Hp) (id:Nat),(∀ o,(id,o)∉l)→lkp (Zi hp l) id=lkp hp id
 | [],hp,id,_=>rfl
 | (k,x) :: r,hp,id,h=>by
  simp only[Zi]
  rw[ZD r _ id fun o ho=>h o (List.mem_cons_of_mem _ ho),Qs,if_neg]
  intro e
  subst e
  exact h x (List.mem_cons_self ..)
structure Zht (hp:Hp) (ce:Zf):Prop where
 dels:∀ id∈ce.eff.dels,∀ cs,lkp hp id≠some (.box cs)
 sets:∀ id o,(id,o)∈ce.eff.sets→(∃ cs,lkp hp id=some (.box cs))→∃ cs',o=.box cs'
theorem Zht.keeps {hp:Hp} {ce:Zf} (h:Zht hp ce) {base hi:Nat} (hok:Q7 base hi ce.eff.adds=true) (dst:Option Nat) (sl:Sl):XG hp (ce.on dst sl hp).2 base:=by
 intro id cs hn hl
 show ∃ cs',lkp (Zi (Zi (Qy (Qo ce.eff.frz (Wj ce.gone hp)) ce.eff.dels) ce.eff.sets) ce.eff.adds) id=some (.box cs')
 rw[ZD _ _ _ (fun o ho=>by have:=(Jz hok id o ho).1;omega)]
 by_cases hs:∃ o,(id,o)∈ce.eff.sets
 ·obtain⟨o,ho⟩:=hs
  cases hq:lkp (Zi (Qy (Qo ce.eff.frz (Wj ce.gone hp)) ce.eff.dels) ce.eff.sets) id with
  | none=>
   exfalso
   have key:∀ (l:Hp) (hp:Hp),(id,o)∈l→lkp (Zi hp l) id≠none:=by
    intro l
    induction l with
    | nil=>intro hp h;simp at h
    | cons q r ih=>
     intro hp hm
     obtain⟨k,x⟩:=q
     simp only[Zi]
     rcases List.mem_cons.1 hm with hm | hm
     ·cases hm
      by_cases hr:∃ o',(id,o')∈r
      ·intro hn
       obtain⟨o',ho'⟩:=hr
       have:∀ (l:Hp) (hp:Hp),(∃ v,lkp hp id=some v)→lkp (Zi hp l) id≠none:=by
        intro l
        induction l with
        | nil=>rintro hp ⟨v,hv⟩ hn;simp only[Zi] at hn;rw[hv] at hn;cases hn
        | cons q r ih=>
         rintro hp ⟨v,hv⟩
         obtain⟨k,x⟩:=q
         simp only[Zi]
         refine ih _ ?_
         rw[Qs]
         split
         ·exact⟨_,rfl⟩
         ·exact⟨v,hv⟩
       exact this r _ ⟨o,by rw[Qs,if_pos rfl]⟩ hn
      ·rw[ZD r _ id fun o' ho'=>hr ⟨o',ho'⟩,Qs,if_pos rfl]
       simp
     ·exact ih _ hm
   exact key _ _ ho hq
  | some o' =>
   rcases Zjg _ _ _ _ hq with hm | ⟨hm,_⟩
   ·obtain⟨cs',h1⟩:=h.sets id o' hm ⟨cs,hl⟩
    exact⟨cs',by rw[h1]⟩
   ·exact absurd ho (hm o)
 ·rw[ZD _ _ _ (fun o ho=>hs ⟨o,ho⟩),Um _ _ _ (fun hd=>h.dels id hd cs hl),Qj,WH,hl]
  simp only[Option.map_some,Yw,WS]
  split
  ·exact⟨_,rfl⟩
  ·exact⟨_,rfl⟩
theorem YR {hp:Hp} {ce:Zf} (h1:ce.eff.dels=[]) (h2:ce.eff.sets=[]):Zht hp ce:=
 ⟨fun id hid=>by rw[h1] at hid;simp at hid,fun id o ho=>by rw[h2] at ho;simp at ho⟩
theorem Qw {hp:Hp} {v:AV} {ce:Zf} (h:Qm v=some ce):Zht hp ce:=by cases h;exact YR rfl rfl
theorem X6 {hp:Hp} {v:Option AV} {ce:Zf} (h:UA v=some ce):Zht hp ce:=by
 obtain⟨r,_,h⟩:=Za h
 exact Qw h
theorem ZvS {C:Orc} (hC:V1 C) {hp:Hp} {m:Nat→Bool} {base f:Nat} {avs:List AV} {ce:Zf} (h:Zfd C m hp base f avs=some ce):Zht hp ce:=by
 unfold Zfd at h
 obtain⟨as,_,h⟩:=Za h
 unfold ZgR at h
 split at h
 ·obtain⟨⟨r,out⟩,h1,h⟩:=Za h
  unfold ZbQ at h
  split at h
  ·cases h
  split at h
  ·cases h
  ·cases h
   refine⟨fun id hid=>by simp at hid,fun id o ho hb=>?_⟩
   obtain⟨k,o0,h2,h3,rfl⟩:=Zik _ _ _ _ _ ho
   obtain⟨cs,hcs⟩:=hb
   have h4:((Zgh hp (Q0 hp (XE hp) (as.flatMap ZH) [])).map (ZbP (Q0 hp (XE hp) (as.flatMap ZH) [])))[k]?=some (ZbP (Q0 hp (XE hp) (as.flatMap ZH) []) (.box cs)):=by
    rw[List.getElem?_map,Zf6,h2]
    simp[hcs,Zmi]
   obtain⟨cs',h5⟩:=hC _ _ _ _ _ h1 k _ h4
   rw[h3] at h5
   cases h5
   exact⟨_,rfl⟩
 ·cases h
theorem ZkZ {hp:Hp} {s b base:Nat} {str flat:Bool} {x y:AV} {ef:Eff} (h1:Jx hp s b str flat base x y=some ef):Zht hp { eff:=ef,gone:=[] }:=by
 unfold Jx at h1
 obtain⟨q,_,h1⟩:=Za h1
 split at h1
 ·unfold Zjq at h1
  split at h1
  ·split at h1
   ·cases h1;exact YR rfl rfl
   ·cases h1
  ·split at h1
   ·cases h1
   ·unfold Znk at h1
    split at h1
    ·rename_i hl
     split at h1
     ·cases h1
      refine⟨fun id hid cs hcs=>?_,fun id o ho=>by simp[Zjp] at ho⟩
      simp[Zjp] at hid
      rw[hid,hl] at hcs
      cases hcs
     ·cases h1
    ·cases h1
  ·split at h1
   ·cases h1
   ·split at h1
    ·unfold Zkr at h1
     split at h1
     ·rename_i hl
      split at h1
      ·cases h1
       refine⟨fun id hid cs hcs=>?_,fun id o ho=>by simp at ho⟩
       simp at hid
       rw[hid,hl] at hcs
       cases hcs
      ·cases h1
     ·cases h1
    ·unfold Zkq at h1
     split at h1
     ·rename_i hl
      split at h1
      ·cases h1
       refine⟨fun id hid cs hcs=>?_,fun id o ho=>by simp[Zjp] at ho⟩
       simp[Zjp] at hid
       rw[hid,hl] at hcs
       cases hcs
      ·cases h1
     ·cases h1
  ·cases h1
 ·cases h1
theorem Zqn {hp:Hp} {ns:Nat}:∀ {cs:List AV} {q:List D×List Nat},ZhQ hp ns cs=some q→∀ id∈q.2,∀ ds,lkp hp id≠some (.box ds)
 | [],q,h,id,hid=>by simp only[ZhQ] at h;cases h;simp at hid
 | c :: cs,q,h,id,hid=>by
  simp only[ZhQ] at h
  obtain⟨q1,h1,h⟩:=Za h
  obtain⟨q2,h2,h⟩:=Za h
  split at h
  ·cases h
   simp only[List.mem_append] at hid
   rcases hid with hid | hid
   ·unfold ZgT at h1
    split at h1
    ·split at h1
     ·cases h1;simp at hid
     ·cases h1
    ·cases h1;simp at hid
    ·unfold ZgT.deepRow at h1
     split at h1
     ·rename_i hl
      split at h1
      ·cases h1
       simp at hid
       subst hid
       intro ds hds
       rw[hl] at hds;cases hds
      ·cases h1
     ·cases h1
    ·cases h1
   ·exact Zqn h2 id hid
  ·cases h
theorem ZlD {hp:Hp} {id:Nat} {q:Nat×Nat×List D} (h:Zlu (lkp hp id)=some q):∀ ds,lkp hp id≠some (.box ds):=by
 intro ds hds
 rw[hds] at h;cases h
theorem ZvT {hp:Hp} {s b base:Nat} {str flat:Bool} {x y:AV} {ef:Eff} (h1:ZhR hp s b str flat base y x=some ef):Zht hp { eff:=ef,gone:=[] }:=by
 unfold ZhR at h1
 split at h1
 ·split at h1
  ·cases h1
  ·obtain⟨q,_,h2⟩:=Za h1
   split at h2
   ·cases h2
   ·unfold Zlv at h2
    split at h2
    ·rename_i hl
     obtain⟨fl,_,h3⟩:=Za h2
     split at h3
     ·cases h3
      refine⟨fun id hid=>by simp at hid,fun id o ho hb=>?_⟩
      simp at ho
      obtain⟨cs,hcs⟩:=hb
      rw[ho.1,hl] at hcs
      cases hcs
     ·cases h3
    ·cases h2
 ·generalize hm:Vs hp x++Vs hp y=ms at h1
  have hrow:∀ k∈ms,∀ ds,lkp hp k≠some (.box ds):=by
   intro k hk ds hds
   rw[← hm] at hk
   have key:∀ z,k∈Vs hp z→False:=by
    intro z hz
    unfold Vs at hz
    split at hz
    ·split at hz
     ·rename_i hdp
      simp at hz;subst hz
      rw[hds] at hdp;cases hdp
     ·simp at hz
    ·simp at hz
   rcases List.mem_append.1 hk with hk | hk<;>exact key _ hk
  cases ms with
  | nil=>exact ZkZ h1
  | cons i r=>
   simp only[WV] at h1
   split at h1
   ·cases h1
   ·obtain⟨e0,h2,h1⟩:=Za h1
    cases h1
    have hbe:=ZkZ h2
    have hbox:∀ k ds,lkp hp k=some (.box ds)→lkp (meltIn hp (i :: r)) k=some (.box ds):=by
     intro k ds hk
     rw[Zbq,hk]
     simp only[Option.map_some,Zgl,ite_self]
    refine⟨fun k hk ds hds=>?_,fun k o ho ⟨ds,hds⟩=>hbe.sets k o ho ⟨ds,hbox k ds hds⟩⟩
    rcases List.mem_append.1 hk with hk | hk
    ·exact hbe.dels k hk ds (hbox k ds hds)
    ·exact hrow k hk ds hds
theorem ZvU {hp:Hp} {s b base:Nat} {x y:AV} {ce:Zf} (h:ZrQ hp s b base x y=some ce):Zht hp ce:=by
 unfold ZrQ at h
 obtain⟨ef,h1,h⟩:=Za h
 cases h
 obtain⟨q,hq,h1⟩:=Za h1
 split at h1
 ·unfold ZgU at hq
  split at hq
  ·obtain⟨q2,h2,hq⟩:=Za hq
   cases hq
   unfold Zfo at h1
   split at h1
   ·split at h1
    ·cases h1
     refine⟨fun id hid=>?_,fun id o ho=>by simp at ho⟩
     simp at hid;subst hid
     exact ZlD h2
    ·cases h1
   ·obtain⟨q1,h3,h4⟩:=Za h1
    split at h4
    ·cases h4
     refine⟨fun id hid=>?_,fun id o ho=>by simp at ho⟩
     simp at hid
     rcases hid with rfl | rfl
     ·exact ZlD h3
     ·exact ZlD h2
    ·cases h4
   ·cases h1
  ·cases hq
 ·cases h1
theorem ZiD {C:Orc} {M:Zu} (hC:V1 C) {sl:Sl} {hp:Hp} {base:Nat} {c:COp} {ce:Zf} (h:vop C M sl hp base c=some ce):Zht hp ce:=by
 cases c with
 | move x=>exact Qw h
 | assign s x=>
  simp only[vop] at h
  unfold ZgS at h
  split at h
  ·obtain⟨s,_,h⟩:=Za h;cases h;exact YR rfl rfl
  ·exact Qw h
 | pick c x y=>
  simp only[vop] at h
  unfold ZiY at h
  split at h
  ·split at h<;>exact Qw h
  ·cases h
 | alloc slc cs=>
  simp only[vop] at h
  unfold Zir at h
  split at h<;>(cases h;exact YR rfl rfl)
 | box x=>
  simp only[vop] at h
  unfold Zxc at h
  split at h
  ·cases h;exact YR rfl rfl
  ·cases h
 | build zs ps=>
  simp only[vop] at h
  obtain⟨cs,_,h⟩:=Za h
  exact Qw h
 | buildSl s xs=>
  simp only[vop] at h
  cases hx:evL sl xs with
  | nil=>rw[hx] at h;exact Qw h
  | cons v vs=>
   rw[hx] at h
   obtain⟨q,_,h⟩:=Za h
   unfold Zxd at h
   split at h
   ·cases h;exact YR rfl rfl
   ·cases h
 | load g s x=>exact X6 h
 | store slc s x y=>
  simp only[vop] at h
  obtain⟨ef,h1,h⟩:=Za h
  cases h
  unfold Zdh at h1
  split at h1
  ·unfold ZhN at h1
   split at h1
   ·rename_i hl
    split at h1
    ·split at h1
     ·cases h1
      exact⟨fun id hid=>by simp at hid,fun id o ho _=>by simp at ho;exact⟨_,ho.2⟩⟩
     ·cases h1
      exact⟨fun id hid=>by simp at hid,fun id o ho _=>by simp at ho;exact⟨_,ho.2⟩⟩
    ·cases h1
   ·cases h1
  ·unfold Zge at h1
   split at h1
   ·rename_i hl
    split at h1
    ·obtain⟨x,_,h1⟩:=Za h1
     obtain⟨ds,_,h1⟩:=Za h1
     unfold ZhO at h1
     split at h1
     ·cases h1
      refine⟨fun id hid=>by simp at hid,fun id o ho hb=>?_⟩
      simp at ho
      obtain⟨cs,hcs⟩:=hb
      rw[ho.1,hl] at hcs
      cases hcs
     ·cases h1
    ·cases h1
   ·cases h1
  ·cases h1
 | nilCheck x=>
  simp only[vop] at h
  unfold ZbR at h
  split at h<;>first | exact Qw h | cases h
 | bin op eq x y=>
  simp only[vop] at h
  unfold Zfn at h
  split at h
  ·split at h
   ·exact X6 h
   ·cases h
  ·exact X6 h
 | un op x=>exact X6 h
 | eqA neg ks x y=>
  simp only[vop] at h
  unfold ZrP at h
  split at h
  ·obtain⟨r,_,h⟩:=Za h;exact Qw h
  ·cases h
 | convI k x=>
  simp only[vop] at h
  unfold Abs.convI at h
  split at h<;>first | exact Qw h | cases h
 | convS x=>
  simp only[vop] at h
  unfold Abs.convS at h
  split at h<;>first | exact Qw h | cases h
 | fn f cs=>exact X6 h
 | make s b z l c=>
  simp only[vop] at h
  obtain⟨n,_,h⟩:=Za h
  obtain⟨m,_,h⟩:=Za h
  unfold Zp1 at h
  split at h
  ·cases h;exact YR rfl rfl
  ·cases h
 | slice s x lo hi=>exact X6 h
 | sliceS x lo hi=>exact X6 h
 | slice0 x hi mx=>exact X6 h
 | slice3 s x lo hi mx=>exact X6 h
 | stuck=>cases h
 | appDp s b f x y=>exact ZvU h
 | asgDp s n x=>
  simp only[vop] at h
  unfold Abs.asgDp at h
  split at h
  ·cases h;exact YR rfl rfl
  ·cases h
 | buildDp s n xs=>
  simp only[vop] at h
  unfold buildDp at h
  split at h
  ·obtain⟨q,h1,h⟩:=Za h
   split at h
   ·cases h
    exact⟨fun id hid=>Zqn h1 id hid,fun id o ho=>by simp at ho⟩
   ·cases h
  ·cases h
 | clear s z x=>
  simp only[vop] at h
  obtain⟨ef,h1,h⟩:=Za h
  cases h
  unfold Zhm at h1
  split at h1
  ·unfold Zjr at h1
   split at h1
   ·rename_i hl
    split at h1
    ·cases h1
     refine⟨fun id hid=>by simp at hid,fun id o ho hb=>?_⟩
     simp at ho
     obtain⟨cs,hcs⟩:=hb
     rw[ho.1,hl] at hcs
     cases hcs
    ·cases h1
   ·cases h1
  ·cases h1
 | shift off x=>
  simp only[vop] at h
  unfold WU at h
  split at h<;>first | exact Qw h | cases h
 | part g s off x=>exact X6 h
 | iaS s x i=>
  simp only[vop] at h
  obtain⟨n,_,h⟩:=Za h
  unfold Zjt at h
  split at h
  ·exact X6 h
  ·cases h
 | iaA len s x i=>
  simp only[vop] at h
  obtain⟨n,_,h⟩:=Za h
  unfold Zoi at h
  split at h
  ·unfold WU at h
   split at h<;>first | exact Qw h | cases h
  ·cases h
 | ixS x i=>
  simp only[vop] at h
  obtain⟨n,_,h⟩:=Za h
  unfold ZvG at h
  split at h
  ·unfold Zs1 at h
   split at h
   ·obtain⟨b,_,h⟩:=Za h;exact Qw h
   ·cases h
  ·cases h
 | ixA g s len x i=>
  simp only[vop] at h
  obtain⟨n,_,h⟩:=Za h
  unfold Zxe at h
  split at h
  ·exact X6 h
  ·cases h
 | nth i x=>
  simp only[vop] at h
  unfold Zt3 at h
  split at h
  ·exact X6 h
  ·cases h
 | len x=>
  simp only[vop] at h
  obtain⟨n,_,h⟩:=Za h
  exact Qw h
 | lenS x=>
  simp only[vop] at h
  obtain⟨n,_,h⟩:=Za h
  exact Qw h
 | append s b str flat x y=>
  simp only[vop] at h
  unfold Zt4 at h
  obtain⟨ef,h1,h⟩:=Za h
  cases h
  exact ZvT h1
 | min x y=>
  simp only[vop] at h
  unfold Zmk at h
  split at h
  ·split at h
   ·exact Qw h
   ·cases h
  ·cases h
 | max x y=>
  simp only[vop] at h
  unfold Zml at h
  split at h
  ·split at h
   ·exact Qw h
   ·cases h
  ·cases h
 | call f as=>
  simp only[vop] at h
  unfold Zgm at h
  split at h
  ·exact ZvS hC h
  ·cases h
end Go.Abs
