/- The abstract semantics and the model: regions,codes. Own text. -/
import Derived.Test.YtpobhkoombldlaaGreatAbsCall4
import Derived.Orders
set_option linter.unusedVariables false
set_option linter.unusedSimpArgs false
namespace Go.Abs
open Go
def XN (hp hp' : Hp) (n:Nat):Prop:=∀ id cs,id<n→lkp hp id=some (.box cs)→∃ cs',lkp hp' id=some (.box cs')
theorem XN.refl (hp:Hp) (n:Nat):XN hp hp n:=fun _ cs _ h=>⟨cs,h⟩
theorem XN.trans {a b c:Hp} {n:Nat} (h:XN a b n) (k:XN b c n):XN a c n:=fun id cs hn hl=>by
 obtain⟨cs',h1⟩:=h id cs hn hl
 exact k id cs' hn h1
def WP (C:Orc):Prop:=∀ f as h r hs,C f as h=some (r,hs)→∀ (k:Nat) (cs:List AV),h[k]?=some (Zt.box cs)→∃ cs',hs[k]?=some (Zt.box cs')
theorem ZC:∀ (l:Hp) (hp:Hp) (id:Nat),(∀ o,(id,o)∉l)→lkp (Zi hp l) id=lkp hp id
 | [],hp,id,_=>rfl
 | (k,x) :: r,hp,id,h=>by
  simp only[Zi]
  rw[ZC r _ id fun o ho=>h o (List.mem_cons_of_mem _ ho),Qo,if_neg]
  intro e
  subst e
  exact h x (List.mem_cons_self ..)
structure Ze1 (hp:Hp) (ce:Zf):Prop where
 dels:∀ id∈ce.eff.dels,∀ cs,lkp hp id≠some (.box cs)
 sets:∀ id o,(id,o)∈ce.eff.sets→(∃ cs,lkp hp id=some (.box cs))→∃ cs',o=.box cs'
theorem Ze1.keeps {hp:Hp} {ce:Zf} (h:Ze1 hp ce) {base hi:Nat} (hok:Q8 base hi ce.eff.adds=true) (dst:Option Nat) (sl:Sl):XN hp (ce.on dst sl hp).2 base:=by
 intro id cs hn hl
 show ∃ cs',lkp (Zi (Zi (Qv (Ql ce.eff.frz (Wj ce.gone hp)) ce.eff.dels) ce.eff.sets) ce.eff.adds) id=some (.box cs')
 rw[ZC _ _ _ (fun o ho=>by have:=(Jj hok id o ho).1;omega)]
 by_cases hs:∃ o,(id,o)∈ce.eff.sets
 ·obtain⟨o,ho⟩:=hs
  cases hq:lkp (Zi (Qv (Ql ce.eff.frz (Wj ce.gone hp)) ce.eff.dels) ce.eff.sets) id with
  | none=>
   exfalso
   have key:∀ (l:Hp) (hp:Hp),(id,o)∈l→lkp (Zi hp l) id≠none:=by
    intro l
    induction l with
    | nil=>intro hp h;simp at h
    | cons q r ih=>
     intro hp hm
     obtain⟨k,x⟩:=q
     simp only[Zi]
     rcases List.mem_cons.1 hm with hm | hm
     ·cases hm
      by_cases hr:∃ o',(id,o')∈r
      ·intro hn
       obtain⟨o',ho'⟩:=hr
       have:∀ (l:Hp) (hp:Hp),(∃ v,lkp hp id=some v)→lkp (Zi hp l) id≠none:=by
        intro l
        induction l with
        | nil=>rintro hp ⟨v,hv⟩ hn;simp only[Zi] at hn;rw[hv] at hn;cases hn
        | cons q r ih=>
         rintro hp ⟨v,hv⟩
         obtain⟨k,x⟩:=q
         simp only[Zi]
         refine ih _ ?_
         rw[Qo]
         split
         ·exact⟨_,rfl⟩
         ·exact⟨v,hv⟩
       exact this r _ ⟨o,by rw[Qo,if_pos rfl]⟩ hn
      ·rw[ZC r _ id fun o' ho'=>hr ⟨o',ho'⟩,Qo,if_pos rfl]
       simp
     ·exact ih _ hm
   exact key _ _ ho hq
  | some o' =>
   rcases Zhp _ _ _ _ hq with hm | ⟨hm,_⟩
   ·obtain⟨cs',h1⟩:=h.sets id o' hm ⟨cs,hl⟩
    exact⟨cs',by rw[h1]⟩
   ·exact absurd ho (hm o)
 ·rw[ZC _ _ _ (fun o ho=>hs ⟨o,ho⟩),Uf _ _ _ (fun hd=>h.dels id hd cs hl),Qj,WE,hl]
  simp only[Option.map_some,YB,WM]
  split
  ·exact⟨_,rfl⟩
  ·exact⟨_,rfl⟩
theorem YU {hp:Hp} {ce:Zf} (h1:ce.eff.dels=[]) (h2:ce.eff.sets=[]):Ze1 hp ce:=
 ⟨fun id hid=>by rw[h1] at hid;simp at hid,fun id o ho=>by rw[h2] at ho;simp at ho⟩
theorem Qt {hp:Hp} {v:AV} {ce:Zf} (h:Qs v=some ce):Ze1 hp ce:=by cases h;exact YU rfl rfl
theorem Yf {hp:Hp} {v:Option AV} {ce:Zf} (h:Ut v=some ce):Ze1 hp ce:=by
 obtain⟨r,_,h⟩:=Za h
 exact Qt h
theorem ZvI {C:Orc} (hC:WP C) {hp:Hp} {m:Nat→Bool} {base f:Nat} {avs:List AV} {ce:Zf} (h:Zde C m hp base f avs=some ce):Ze1 hp ce:=by
 unfold Zde at h
 obtain⟨as,_,h⟩:=Za h
 unfold Zev at h
 split at h
 ·obtain⟨⟨r,out⟩,h1,h⟩:=Za h
  unfold ZaW at h
  split at h
  ·cases h
  split at h
  ·cases h
  ·cases h
   refine⟨fun id hid=>by simp at hid,fun id o ho hb=>?_⟩
   obtain⟨k,o0,h2,h3,rfl⟩:=Zf5 _ _ _ _ _ ho
   obtain⟨cs,hcs⟩:=hb
   have h4:((ZdV hp (Q0 hp (XL hp) (as.flatMap ZJ) [])).map (ZaV (Q0 hp (XL hp) (as.flatMap ZJ) [])))[k]?=some (ZaV (Q0 hp (XL hp) (as.flatMap ZJ) []) (.box cs)):=by
    rw[List.getElem?_map,ZdL,h2]
    simp[hcs,Zlv]
   obtain⟨cs',h5⟩:=hC _ _ _ _ _ h1 k _ h4
   rw[h3] at h5
   cases h5
   exact⟨_,rfl⟩
 ·cases h
theorem ZjA {hp:Hp} {s b base:Nat} {str flat:Bool} {x y:AV} {ef:Eff} (h1:Ji hp s b str flat base x y=some ef):Ze1 hp { eff:=ef,gone:=[] }:=by
 unfold Ji at h1
 obtain⟨q,_,h1⟩:=Za h1
 split at h1
 ·unfold Zhy at h1
  split at h1
  ·split at h1
   ·cases h1;exact YU rfl rfl
   ·cases h1
  ·split at h1
   ·cases h1
   ·unfold ZmM at h1
    split at h1
    ·rename_i hl
     split at h1
     ·cases h1
      refine⟨fun id hid cs hcs=>?_,fun id o ho=>by simp[Zhx] at ho⟩
      simp[Zhx] at hid
      rw[hid,hl] at hcs
      cases hcs
     ·cases h1
    ·cases h1
  ·split at h1
   ·cases h1
   ·split at h1
    ·unfold Zi2 at h1
     split at h1
     ·rename_i hl
      split at h1
      ·cases h1
       refine⟨fun id hid cs hcs=>?_,fun id o ho=>by simp at ho⟩
       simp at hid
       rw[hid,hl] at hcs
       cases hcs
      ·cases h1
     ·cases h1
    ·unfold Zi1 at h1
     split at h1
     ·rename_i hl
      split at h1
      ·cases h1
       refine⟨fun id hid cs hcs=>?_,fun id o ho=>by simp[Zhx] at ho⟩
       simp[Zhx] at hid
       rw[hid,hl] at hcs
       cases hcs
      ·cases h1
     ·cases h1
  ·cases h1
 ·cases h1
theorem Zp3 {hp:Hp} {ns:Nat}:∀ {cs:List AV} {q:List D×List Nat},Zfo hp ns cs=some q→∀ id∈q.2,∀ ds,lkp hp id≠some (.box ds)
 | [],q,h,id,hid=>by simp only[Zfo] at h;cases h;simp at hid
 | c :: cs,q,h,id,hid=>by
  simp only[Zfo] at h
  obtain⟨q1,h1,h⟩:=Za h
  obtain⟨q2,h2,h⟩:=Za h
  split at h
  ·cases h
   simp only[List.mem_append] at hid
   rcases hid with hid | hid
   ·unfold Zex at h1
    split at h1
    ·split at h1
     ·cases h1;simp at hid
     ·cases h1
    ·cases h1;simp at hid
    ·unfold Zex.deepRow at h1
     split at h1
     ·rename_i hl
      split at h1
      ·cases h1
       simp at hid
       subst hid
       intro ds hds
       rw[hl] at hds;cases hds
      ·cases h1
     ·cases h1
    ·cases h1
   ·exact Zp3 h2 id hid
  ·cases h
theorem ZkR {hp:Hp} {id:Nat} {q:Nat×Nat×List D} (h:ZkI (lkp hp id)=some q):∀ ds,lkp hp id≠some (.box ds):=by
 intro ds hds
 rw[hds] at h;cases h
theorem ZvJ {hp:Hp} {s b base:Nat} {str flat:Bool} {x y:AV} {ef:Eff} (h1:Zfq hp s b str flat base y x=some ef):Ze1 hp { eff:=ef,gone:=[] }:=by
 unfold Zfq at h1
 split at h1
 ·split at h1
  ·cases h1
  ·obtain⟨q,_,h2⟩:=Za h1
   split at h2
   ·cases h2
   ·unfold ZkJ at h2
    split at h2
    ·rename_i hl
     obtain⟨fl,_,h3⟩:=Za h2
     split at h3
     ·cases h3
      refine⟨fun id hid=>by simp at hid,fun id o ho hb=>?_⟩
      simp at ho
      obtain⟨cs,hcs⟩:=hb
      rw[ho.1,hl] at hcs
      cases hcs
     ·cases h3
    ·cases h2
 ·generalize hm:Vp hp x++Vp hp y=ms at h1
  have hrow:∀ k∈ms,∀ ds,lkp hp k≠some (.box ds):=by
   intro k hk ds hds
   rw[← hm] at hk
   have key:∀ z,k∈Vp hp z→False:=by
    intro z hz
    unfold Vp at hz
    split at hz
    ·split at hz
     ·rename_i hdp
      simp at hz;subst hz
      rw[hds] at hdp;cases hdp
     ·simp at hz
    ·simp at hz
   rcases List.mem_append.1 hk with hk | hk<;>exact key _ hk
  cases ms with
  | nil=>exact ZjA h1
  | cons i r=>
   simp only[WO] at h1
   split at h1
   ·cases h1
   ·obtain⟨e0,h2,h1⟩:=Za h1
    cases h1
    have hbe:=ZjA h2
    have hbox:∀ k ds,lkp hp k=some (.box ds)→lkp (meltIn hp (i :: r)) k=some (.box ds):=by
     intro k ds hk
     rw[Zaz,hk]
     simp only[Option.map_some,ZdZ,ite_self]
    refine⟨fun k hk ds hds=>?_,fun k o ho ⟨ds,hds⟩=>hbe.sets k o ho ⟨ds,hbox k ds hds⟩⟩
    rcases List.mem_append.1 hk with hk | hk
    ·exact hbe.dels k hk ds (hbox k ds hds)
    ·exact hrow k hk ds hds
theorem ZvK {hp:Hp} {s b base:Nat} {x y:AV} {ce:Zf} (h:ZrB hp s b base x y=some ce):Ze1 hp ce:=by
 unfold ZrB at h
 obtain⟨ef,h1,h⟩:=Za h
 cases h
 obtain⟨q,hq,h1⟩:=Za h1
 split at h1
 ·unfold Zey at hq
  split at hq
  ·obtain⟨q2,h2,hq⟩:=Za hq
   cases hq
   unfold Zdn at h1
   split at h1
   ·split at h1
    ·cases h1
     refine⟨fun id hid=>?_,fun id o ho=>by simp at ho⟩
     simp at hid;subst hid
     exact ZkR h2
    ·cases h1
   ·obtain⟨q1,h3,h4⟩:=Za h1
    split at h4
    ·cases h4
     refine⟨fun id hid=>?_,fun id o ho=>by simp at ho⟩
     simp at hid
     rcases hid with rfl | rfl
     ·exact ZkR h3
     ·exact ZkR h2
    ·cases h4
   ·cases h1
  ·cases hq
 ·cases h1
theorem Zgp {C:Orc} {M:Zu} (hC:WP C) {sl:Sl} {hp:Hp} {base:Nat} {c:COp} {ce:Zf} (h:vop C M sl hp base c=some ce):Ze1 hp ce:=by
 cases c with
 | move x=>exact Qt h
 | assign s x=>
  simp only[vop] at h
  unfold Zew at h
  split at h
  ·obtain⟨s,_,h⟩:=Za h;cases h;exact YU rfl rfl
  ·exact Qt h
 | pick c x y=>
  simp only[vop] at h
  unfold ZgE at h
  split at h
  ·split at h<;>exact Qt h
  ·cases h
 | alloc slc cs=>
  simp only[vop] at h
  unfold Zgd at h
  split at h<;>(cases h;exact YU rfl rfl)
 | box x=>
  simp only[vop] at h
  unfold Zw3 at h
  split at h
  ·cases h;exact YU rfl rfl
  ·cases h
 | build zs ps=>
  simp only[vop] at h
  obtain⟨cs,_,h⟩:=Za h
  exact Qt h
 | buildSl s xs=>
  simp only[vop] at h
  cases hx:evL sl xs with
  | nil=>rw[hx] at h;exact Qt h
  | cons v vs=>
   rw[hx] at h
   obtain⟨q,_,h⟩:=Za h
   unfold Zw4 at h
   split at h
   ·cases h;exact YU rfl rfl
   ·cases h
 | load g s x=>exact Yf h
 | store slc s x y=>
  simp only[vop] at h
  obtain⟨ef,h1,h⟩:=Za h
  cases h
  unfold ZbR at h1
  split at h1
  ·unfold Zfl at h1
   split at h1
   ·rename_i hl
    split at h1
    ·split at h1
     ·cases h1
      exact⟨fun id hid=>by simp at hid,fun id o ho _=>by simp at ho;exact⟨_,ho.2⟩⟩
     ·cases h1
      exact⟨fun id hid=>by simp at hid,fun id o ho _=>by simp at ho;exact⟨_,ho.2⟩⟩
    ·cases h1
   ·cases h1
  ·unfold ZdS at h1
   split at h1
   ·rename_i hl
    split at h1
    ·obtain⟨x,_,h1⟩:=Za h1
     obtain⟨ds,_,h1⟩:=Za h1
     unfold Zfm at h1
     split at h1
     ·cases h1
      refine⟨fun id hid=>by simp at hid,fun id o ho hb=>?_⟩
      simp at ho
      obtain⟨cs,hcs⟩:=hb
      rw[ho.1,hl] at hcs
      cases hcs
     ·cases h1
    ·cases h1
   ·cases h1
  ·cases h1
 | nilCheck x=>
  simp only[vop] at h
  unfold ZaX at h
  split at h<;>first | exact Qt h | cases h
 | bin op eq x y=>
  simp only[vop] at h
  unfold Zfp at h
  split at h
  ·split at h
   ·exact Yf h
   ·cases h
  ·exact Yf h
 | un op x=>exact Yf h
 | eqA neg ks x y=>
  simp only[vop] at h
  unfold ZrA at h
  split at h
  ·obtain⟨r,_,h⟩:=Za h;exact Qt h
  ·cases h
 | convI k x=>
  simp only[vop] at h
  unfold Abs.convI at h
  split at h<;>first | exact Qt h | cases h
 | convS x=>
  simp only[vop] at h
  unfold Abs.convS at h
  split at h<;>first | exact Qt h | cases h
 | fn f cs=>exact Yf h
 | make s b z l c=>
  simp only[vop] at h
  obtain⟨n,_,h⟩:=Za h
  obtain⟨m,_,h⟩:=Za h
  unfold ZpG at h
  split at h
  ·cases h;exact YU rfl rfl
  ·cases h
 | slice s x lo hi=>exact Yf h
 | sliceS x lo hi=>exact Yf h
 | slice0 x hi mx=>exact Yf h
 | slice3 s x lo hi mx=>exact Yf h
 | stuck=>cases h
 | appDp s b f x y=>exact ZvK h
 | asgDp s n x=>
  simp only[vop] at h
  unfold Abs.asgDp at h
  split at h
  ·cases h;exact YU rfl rfl
  ·cases h
 | buildDp s n xs=>
  simp only[vop] at h
  unfold buildDp at h
  split at h
  ·obtain⟨q,h1,h⟩:=Za h
   split at h
   ·cases h
    exact⟨fun id hid=>Zp3 h1 id hid,fun id o ho=>by simp at ho⟩
   ·cases h
  ·cases h
 | clear s z x=>
  simp only[vop] at h
  obtain⟨ef,h1,h⟩:=Za h
  cases h
  unfold ZeV at h1
  split at h1
  ·unfold Zhz at h1
   split at h1
   ·rename_i hl
    split at h1
    ·cases h1
     refine⟨fun id hid=>by simp at hid,fun id o ho hb=>?_⟩
     simp at ho
     obtain⟨cs,hcs⟩:=hb
     rw[ho.1,hl] at hcs
     cases hcs
    ·cases h1
   ·cases h1
  ·cases h1
 | shift off x=>
  simp only[vop] at h
  unfold WN at h
  split at h<;>first | exact Qt h | cases h
 | part g s off x=>exact Yf h
 | iaS s x i=>
  simp only[vop] at h
  obtain⟨n,_,h⟩:=Za h
  unfold ZhB at h
  split at h
  ·exact Yf h
  ·cases h
 | iaA len s x i=>
  simp only[vop] at h
  obtain⟨n,_,h⟩:=Za h
  unfold ZnO at h
  split at h
  ·unfold WN at h
   split at h<;>first | exact Qt h | cases h
  ·cases h
 | ixS x i=>
  simp only[vop] at h
  obtain⟨n,_,h⟩:=Za h
  unfold Zvv at h
  split at h
  ·unfold ZsQ at h
   split at h
   ·obtain⟨b,_,h⟩:=Za h;exact Qt h
   ·cases h
  ·cases h
 | ixA g s len x i=>
  simp only[vop] at h
  obtain⟨n,_,h⟩:=Za h
  unfold Zw5 at h
  split at h
  ·exact Yf h
  ·cases h
 | nth i x=>
  simp only[vop] at h
  unfold ZtR at h
  split at h
  ·exact Yf h
  ·cases h
 | len x=>
  simp only[vop] at h
  obtain⟨n,_,h⟩:=Za h
  exact Qt h
 | lenS x=>
  simp only[vop] at h
  obtain⟨n,_,h⟩:=Za h
  exact Qt h
 | append s b str flat x y=>
  simp only[vop] at h
  unfold ZtS at h
  obtain⟨ef,h1,h⟩:=Za h
  cases h
  exact ZvJ h1
 | min x y=>
  simp only[vop] at h
  unfold Zlx at h
  split at h
  ·split at h
   ·exact Qt h
   ·cases h
  ·cases h
 | max x y=>
  simp only[vop] at h
  unfold Zly at h
  split at h
  ·split at h
   ·exact Qt h
   ·cases h
  ·cases h
 | call f as=>
  simp only[vop] at h
  unfold Zd0 at h
  split at h
  ·exact ZvI hC h
  ·cases h
end Go.Abs
