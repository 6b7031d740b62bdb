/- Own text. -/
import Derived.Test.YtcefneehgbiebaaGreatDoorAbsCall4
import Derived.Orders
set_option linter.unusedVariables false
set_option linter.unusedSimpArgs false
namespace Go.Abs
open Go
def Xb (hp hp' : Hp) (n:Nat):Prop:=∀ id cs,id<n→lkp hp id=some (.box cs)→∃ cs',lkp hp' id=some (.box cs')
theorem Xb.refl (hp:Hp) (n:Nat):Xb hp hp n:=fun _ cs _ h=>⟨cs,h⟩
theorem Xb.trans {a b c:Hp} {n:Nat} (h:Xb a b n) (k:Xb b c n):Xb a c n:=fun id cs hn hl=>by
 obtain⟨cs',h1⟩:=h id cs hn hl;exact k id cs' hn h1
def Wn (C:Orc):Prop:=∀ f as h r hs,C f as h=some (r,hs)→∀ (k:Nat) (cs:List AV),h[k]?=some (Zl.box cs)→∃ cs',hs[k]?=some (Zl.box cs')
theorem Zv:∀ (l:Hp) (hp:Hp) (id:Nat),(∀ o,(id,o)∉l)→lkp (Zh hp l) id=lkp hp id
 | [],hp,id,_=>rfl
 | (k,x) :: r,hp,id,h=>by
  simp only[Zh];rw[Zv r _ id fun o ho=>h o (Kz _ ho),Qh,Kd];intro e;subst e;exact h x (KX ..)
structure ZdN (hp:Hp) (ce:Zd):Prop where
 dels:∀ id∈ce.eff.dels,∀ cs,lkp hp id≠some (.box cs)
 sets:∀ id o,(id,o)∈ce.eff.sets→(∃ cs,lkp hp id=some (.box cs))→∃ cs',o=.box cs'
theorem ZdN.keeps {hp:Hp} {ce:Zd} (h:ZdN hp ce) {base hi:Nat} (ab:QT base hi ce.eff.adds=true) (dst:Option Nat) (sl:Sl):Xb hp (ce.on dst sl hp).2 base:=by
 intro id cs hn hl;show ∃ cs',lkp (Zh (Zh (Qm (Qc ce.eff.frz (Y4 ce.gone hp)) ce.eff.dels) ce.eff.sets) ce.eff.adds) id=some (.box cs');rw[Zv _ _ _ (fun o ho=>by have:=(W3 ab id o ho).1;omega)];by_cases hs:∃ o,(id,o)∈ce.eff.sets
 ·obtain⟨o,ho⟩:=hs;cases hq:lkp (Zh (Qm (Qc ce.eff.frz (Y4 ce.gone hp)) ce.eff.dels) ce.eff.sets) id with
  | none=>
   exfalso
   have ad:∀ (l:Hp) (hp:Hp),(id,o)∈l→lkp (Zh hp l) id≠none:=by
    intro l
    induction l with
    | nil=>intro hp h;simp at h
    | cons q r ih=>
     intro hp hm;obtain⟨k,x⟩:=q;simp only[Zh];rcases Kf.1 hm with hm | hm
     ·cases hm;by_cases hr:∃ o',(id,o')∈r
      ·intro hn;obtain⟨o',aa⟩:=hr;have:∀ (l:Hp) (hp:Hp),(∃ v,lkp hp id=some v)→lkp (Zh hp l) id≠none:=by
        intro l
        induction l with
        | nil=>rintro hp ⟨v,hv⟩ hn;simp only[Zh] at hn;rw[hv] at hn;cases hn
        | cons q r ih=>
         rintro hp ⟨v,hv⟩
         obtain⟨k,x⟩:=q;simp only[Zh];refine ih _ ?_;rw[Qh];split
         ·exact⟨_,rfl⟩
         ·exact⟨v,hv⟩
       exact this r _ ⟨o,by rw[Qh,Ki rfl]⟩ hn
      ·rw[Zv r _ id fun o' aa=>hr ⟨o',aa⟩,Qh,Ki rfl];simp
     ·exact ih _ hm
   exact ad _ _ ho hq
  | some o' =>
   rcases Zgp _ _ _ _ hq with hm | ⟨hm,_⟩
   ·obtain⟨cs',h1⟩:=h.sets id o' hm ⟨cs,hl⟩;exact⟨cs',by rw[h1]⟩
   ·exact absurd ho (hm o)
 ·rw[Zv _ _ _ (fun o ho=>hs ⟨o,ho⟩),V5 _ _ _ (fun hd=>h.dels id hd cs hl),Z8,Vv,hl];simp only[KJ,XV,VD];split
  ·exact⟨_,rfl⟩
  ·exact⟨_,rfl⟩
theorem XA {hp:Hp} {ce:Zd} (h1:ce.eff.dels=[]) (h2:ce.eff.sets=[]):ZdN hp ce:=
 ⟨fun id aa=>by rw[h1] at aa;simp at aa,fun id o ho=>by rw[h2] at ho;simp at ho⟩
theorem Qj {hp:Hp} {v:AV} {ce:Zd} (h:QM v=some ce):ZdN hp ce:=by cases h;exact XA rfl rfl
theorem Xt {hp:Hp} {v:Option AV} {ce:Zd} (h:VE v=some ce):ZdN hp ce:=by
 obtain⟨r,_,h⟩:=Za h;exact Qj h
theorem ZuU {C:Orc} (hC:Wn C) {hp:Hp} {m:Nat→Bool} {base f:Nat} {aa:List AV} {ce:Zd} (h:ZbR C m hp base f aa=some ce):ZdN hp ce:=by
 unfold ZbR at h;obtain⟨as,_,h⟩:=Za h;unfold Zdl at h;split at h
 ·obtain⟨⟨r,out⟩,h1,h⟩:=Za h;unfold JE at h;split at h
  ·cases h
  split at h
  ·cases h
  ·cases h;refine⟨fun id ab=>by simp at ab,fun id o ho hb=>?_⟩;obtain⟨k,o0,h2,h3,rfl⟩:=Ze3 _ _ _ _ _ ho;obtain⟨cs,ad⟩:=hb;have h4:((Zcw hp (QL hp (Q9 hp) (as.flatMap ZB) [])).map (JD (QL hp (Q9 hp) (as.flatMap ZB) [])))[k]?=some (JD (QL hp (Q9 hp) (as.flatMap ZB) []) (.box cs)):=by
    rw[KS,Zcm,h2];simp[ad,Zjv]
   obtain⟨cs',h5⟩:=hC _ _ _ _ _ h1 k _ h4;rw[h3] at h5;cases h5;exact⟨_,rfl⟩
 ·cases h
theorem Zie {hp:Hp} {s b base:Nat} {str flat:Bool} {x y:AV} {ef:Eff} (h1:W1 hp s b str flat base x y=some ef):ZdN hp { eff:=ef,gone:=[] }:=by
 unfold W1 at h1;obtain⟨q,_,h1⟩:=Za h1;split at h1
 ·unfold ZgA at h1;split at h1
  ·split at h1
   ·cases h1;exact XA rfl rfl
   ·cases h1
  ·split at h1
   ·cases h1
   ·unfold ZkG at h1;split at h1
    ·rename_i hl;split at h1
     ·cases h1;refine⟨fun id aa cs ab=>?_,fun id o ho=>by simp[Zgz] at ho⟩;simp[Zgz] at aa;rw[aa,hl] at ab;cases ab
     ·cases h1
    ·cases h1
  ·split at h1
   ·cases h1
   ·split at h1
    ·unfold Zhz at h1;split at h1
     ·rename_i hl;split at h1
      ·cases h1;refine⟨fun id aa cs ab=>?_,fun id o ho=>by simp at ho⟩;simp at aa;rw[aa,hl] at ab;cases ab
      ·cases h1
     ·cases h1
    ·unfold Zhy at h1;split at h1
     ·rename_i hl;split at h1
      ·cases h1;refine⟨fun id aa cs ab=>?_,fun id o ho=>by simp[Zgz] at ho⟩;simp[Zgz] at aa;rw[aa,hl] at ab;cases ab
      ·cases h1
     ·cases h1
  ·cases h1
 ·cases h1
theorem Zox {hp:Hp} {ns:Nat}:∀ {cs:List AV} {q:List D×List Nat},Zet hp ns cs=some q→∀ id∈q.2,∀ ds,lkp hp id≠some (.box ds)
 | [],q,h,id,aa=>by simp only[Zet] at h;cases h;simp at aa
 | c :: cs,q,h,id,aa=>by
  simp only[Zet] at h;obtain⟨q1,h1,h⟩:=Za h;obtain⟨q2,h2,h⟩:=Za h;split at h
  ·cases h;simp only[Kg] at aa;rcases aa with aa | aa
   ·unfold Zdn at h1;split at h1
    ·split at h1
     ·cases h1;simp at aa
     ·cases h1
    ·cases h1;simp at aa
    ·unfold Zdn.deepRow at h1;split at h1
     ·rename_i hl;split at h1
      ·cases h1;simp at aa;subst aa;intro ds ab;rw[hl] at ab;cases ab
      ·cases h1
     ·cases h1
    ·cases h1
   ·exact Zox h2 id aa
  ·cases h
theorem ZiO {hp:Hp} {id:Nat} {q:Nat×Nat×List D} (h:ZiD (lkp hp id)=some q):∀ ds,lkp hp id≠some (.box ds):=by
 intro ds aa;rw[aa] at h;cases h
theorem ZuV {hp:Hp} {s b base:Nat} {str flat:Bool} {x y:AV} {ef:Eff} (h1:Zeu hp s b str flat base y x=some ef):ZdN hp { eff:=ef,gone:=[] }:=by
 unfold Zeu at h1;split at h1
 ·split at h1
  ·cases h1
  ·obtain⟨q,_,h2⟩:=Za h1;split at h2
   ·cases h2
   ·unfold ZiE at h2;split at h2
    ·rename_i hl;obtain⟨fl,_,h3⟩:=Za h2;split at h3
     ·cases h3;refine⟨fun id ah=>by simp at ah,fun id o ho hb=>?_⟩;simp at ho;obtain⟨cs,ae⟩:=hb;rw[ho.1,hl] at ae;cases ae
     ·cases h3
    ·cases h2
 ·generalize hm:Yu hp x++Yu hp y=ms at h1;have ad:∀ k∈ms,∀ ds,lkp hp k≠some (.box ds):=by
   intro k hk ds aa;rw[← hm] at hk;have ai:∀ z,k∈Yu hp z→False:=by
    intro z hz;unfold Yu at hz;split at hz
    ·split at hz
     ·rename_i af;simp at hz;subst hz;rw[aa] at af;cases af
     ·simp at hz
    ·simp at hz
   rcases Kg.1 hk with hk | hk<;>exact ai _ hk
  cases ms with
  | nil=>exact Zie h1
  | cons i r=>
   simp only[VG] at h1;split at h1
   ·cases h1
   ·obtain⟨e0,h2,h1⟩:=Za h1;cases h1;have ag:=Zie h2;have ab:∀ k ds,lkp hp k=some (.box ds)→lkp (meltIn hp (i :: r)) k=some (.box ds):=by
     intro k ds hk;rw[U6,hk];simp only[KJ,ZcA,ite_self]
    refine⟨fun k hk ds aa=>?_,fun k o ho ⟨ds,aa⟩=>ag.sets k o ho ⟨ds,ab k ds aa⟩⟩;rcases Kg.1 hk with hk | hk
    ·exact ag.dels k hk ds (ab k ds aa)
    ·exact ad k hk ds aa
theorem ZuW {hp:Hp} {s b base:Nat} {x y:AV} {ce:Zd} (h:Zqg hp s b base x y=some ce):ZdN hp ce:=by
 unfold Zqg at h;obtain⟨ef,h1,h⟩:=Za h;cases h;obtain⟨q,hq,h1⟩:=Za h1;split at h1
 ·unfold Zdo at hq;split at hq
  ·obtain⟨q2,h2,hq⟩:=Za hq;cases hq;unfold Zb2 at h1;split at h1
   ·split at h1
    ·cases h1;refine⟨fun id aa=>?_,fun id o ho=>by simp at ho⟩;simp at aa;subst aa;exact ZiO h2
    ·cases h1
   ·obtain⟨q1,h3,h4⟩:=Za h1;split at h4
    ·cases h4;refine⟨fun id aa=>?_,fun id o ho=>by simp at ho⟩;simp at aa;rcases aa with rfl | rfl
     ·exact ZiO h3
     ·exact ZiO h2
    ·cases h4
   ·cases h1
  ·cases hq
 ·cases h1
theorem Zfp {C:Orc} {M:Zn} (hC:Wn C) {sl:Sl} {hp:Hp} {base:Nat} {c:COp} {ce:Zd} (h:vop C M sl hp base c=some ce):ZdN hp ce:=by
 cases c with
 | move x=>exact Qj h
 | assign s x=>
  simp only[vop] at h;unfold Zdm at h;split at h
  ·obtain⟨s,_,h⟩:=Za h;cases h;exact XA rfl rfl
  ·exact Qj h
 | pick c x y=>
  simp only[vop] at h;unfold Zf3 at h;split at h
  ·split at h<;>exact Qj h
  ·cases h
 | alloc slc cs=>
  simp only[vop] at h;unfold Zfc ZkH at h;split at h
  ·split at h<;>first | (cases h;done) | (cases h;exact XA rfl rfl)
  ·split at h<;>(cases h;exact XA rfl rfl)
 | box x=>
  simp only[vop] at h;unfold Zwe at h;split at h
  ·cases h;exact XA rfl rfl
  ·cases h
 | build zs ps=>
  simp only[vop] at h;obtain⟨cs,_,h⟩:=Za h;exact Qj h
 | buildSl s xs=>
  simp only[vop] at h;cases hx:evL sl xs with
  | nil=>rw[hx] at h;exact Qj h
  | cons v vs=>
   rw[hx] at h;obtain⟨q,_,h⟩:=Za h;unfold Zwf at h;split at h
   ·cases h;exact XA rfl rfl
   ·cases h
 | load g s x=>exact Xt h
 | store slc s x y=>
  simp only[vop] at h;obtain⟨ef,h1,h⟩:=Za h;cases h;unfold ZaB at h1;split at h1
  ·unfold Zeq at h1;split at h1
   ·rename_i hl;split at h1
    ·split at h1
     ·cases h1;exact⟨fun id aa=>by simp at aa,fun id o ho _=>by simp at ho;exact⟨_,ho.2⟩⟩
     ·cases h1;exact⟨fun id aa=>by simp at aa,fun id o ho _=>by simp at ho;exact⟨_,ho.2⟩⟩
    ·cases h1
   ·cases h1
  ·unfold Zct at h1;split at h1
   ·rename_i hl;split at h1
    ·obtain⟨x,_,h1⟩:=Za h1;obtain⟨ds,_,h1⟩:=Za h1;unfold Zer at h1;split at h1
     ·cases h1;refine⟨fun id aa=>by simp at aa,fun id o ho hb=>?_⟩;simp at ho;obtain⟨cs,ab⟩:=hb;rw[ho.1,hl] at ab;cases ab
     ·cases h1
    ·cases h1
   ·cases h1
  ·cases h1
 | nilCheck x=>
  simp only[vop] at h;unfold JF at h;split at h<;>first | exact Qj h | cases h
 | bin op eq x y=>
  simp only[vop] at h;unfold Zjw at h;split at h
  ·split at h
   ·exact Xt h
   ·cases h
  ·exact Xt h
 | un op x=>exact Xt h
 | eqA neg ks x y=>
  simp only[vop] at h;unfold Zqf at h;split at h
  ·obtain⟨r,_,h⟩:=Za h;exact Qj h
  ·cases h
 | convI k x=>
  simp only[vop] at h;unfold Abs.convI at h;split at h<;>first | exact Qj h | cases h
 | convS x=>
  simp only[vop] at h;unfold Abs.convS at h;split at h<;>first | exact Qj h | cases h
 | fn f cs=>exact Xt h
 | make s b z l c=>
  simp only[vop] at h;obtain⟨n,_,h⟩:=Za h;obtain⟨m,_,h⟩:=Za h;unfold Zoa at h;split at h
  ·cases h;exact XA rfl rfl
  ·cases h
 | slice s x lo hi=>exact Xt h
 | sliceS x lo hi=>exact Xt h
 | slice0 x hi mx=>exact Xt h
 | slice3 s x lo hi mx=>exact Xt h
 | stuck=>cases h
 | appDp s b f x y=>exact ZuW h
 | asgDp s n x=>
  simp only[vop] at h;unfold Abs.asgDp at h;split at h
  ·cases h;exact XA rfl rfl
  ·cases h
 | buildDp s n xs=>
  simp only[vop] at h;unfold buildDp at h;split at h
  ·obtain⟨q,h1,h⟩:=Za h;split at h
   ·cases h;exact⟨fun id aa=>Zox h1 id aa,fun id o ho=>by simp at ho⟩
   ·cases h
  ·cases h
 | clear s z x=>
  simp only[vop] at h;obtain⟨ef,h1,h⟩:=Za h;cases h;unfold ZdF at h1;split at h1
  ·unfold ZgB at h1;split at h1
   ·rename_i hl;split at h1
    ·cases h1;refine⟨fun id aa=>by simp at aa,fun id o ho hb=>?_⟩;simp at ho;obtain⟨cs,ab⟩:=hb;rw[ho.1,hl] at ab;cases ab
    ·cases h1
   ·cases h1
  ·cases h1
 | shift off x=>
  simp only[vop] at h;unfold VF at h;split at h<;>first | exact Qj h | cases h
 | part g s off x=>exact Xt h
 | iaS s x i=>
  simp only[vop] at h;obtain⟨n,_,h⟩:=Za h;unfold ZgD at h;split at h
  ·exact Xt h
  ·cases h
 | iaA len s x i=>
  simp only[vop] at h;obtain⟨n,_,h⟩:=Za h;unfold ZlY at h;split at h
  ·unfold VF at h;split at h<;>first | exact Qj h | cases h
  ·cases h
 | ixS x i=>
  simp only[vop] at h;obtain⟨n,_,h⟩:=Za h;unfold ZuI at h;split at h
  ·unfold ZrQ at h;split at h
   ·obtain⟨b,_,h⟩:=Za h;exact Qj h
   ·cases h
  ·cases h
 | ixA g s len x i=>
  simp only[vop] at h;obtain⟨n,_,h⟩:=Za h;unfold Zwg at h;split at h
  ·exact Xt h
  ·cases h
 | nth i x=>
  simp only[vop] at h;unfold Zs1 at h;split at h
  ·exact Xt h
  ·cases h
 | len x=>
  simp only[vop] at h;obtain⟨n,_,h⟩:=Za h;exact Qj h
 | lenS x=>
  simp only[vop] at h;obtain⟨n,_,h⟩:=Za h;exact Qj h
 | append s b str flat x y=>
  simp only[vop] at h;unfold Zs2 at h;obtain⟨ef,h1,h⟩:=Za h;cases h;exact ZuV h1
 | min x y=>
  simp only[vop] at h;unfold Zjy at h;split at h
  ·split at h
   ·exact Qj h
   ·cases h
  ·cases h
 | max x y=>
  simp only[vop] at h;unfold Zjz at h;split at h
  ·split at h
   ·exact Qj h
   ·cases h
  ·cases h
 | call f as=>
  simp only[vop] at h;unfold ZcB at h;split at h
  ·exact ZuU hC h
  ·cases h
end Go.Abs
