/- Own text. -/
import Derived.Test.YtefabmohhbhlfaaAbsSound2
set_option linter.unusedVariables false
set_option linter.unusedSimpArgs false
namespace Go.Abs
open Go
theorem Za2 {sl sl' : Sl}:∀ {xs:List Opd},(∀ x∈xs,evO sl x=evO sl' x)→evL sl xs=evL sl' xs
 | [],_=>rfl
 | x :: xs,h=>by simp only[evL,h x (by simp),Za2 (xs:=xs) fun y hy=>h y (Ks _ hy)]
theorem Zk2 {sl sl' : Sl}:∀ {xs:List (Nat×Nat×Opd)},(∀ x∈xs.map (fun q=>q.2.2),evO sl x=evO sl' x)→evP sl xs=evP sl' xs
 | [],_=>rfl
 | (a,b,x) :: xs,h=>by simp only[evP,h x (by simp),Zk2 (xs:=xs) fun y hy=>h y (by simp only[Kn,Ke];exact .inr hy)]
theorem Zc9 {sl sl' : Sl} {x:Option Opd} (h:∀ y∈Zpk x,evO sl y=evO sl' y):evM sl x=evM sl' x:=by
 cases x with
 | none=>rfl
 | some y=>simp only[evM,h y (by simp[Zpk])]
theorem QM (C:Orc) (M:Zf) {sl sl' : Sl} (hp:Hp) (base:Nat):∀ {c:COp},(∀ x∈Zv c,evO sl x=evO sl' x)→vop C M sl hp base c=vop C M sl' hp base c:=by
 intro c h;cases c<;>simp only[Zv] at h<;>simp only[vop]
 case move x=>rw[h x (by simp)]
 case assign s x=>rw[h x (by simp)]
 case pick c a b=>rw[h c (by simp),h a (by simp),h b (by simp)]
 case box x=>rw[h x (by simp)]
 case build zs ps=>rw[Zk2 h]
 case buildSl s xs=>rw[Za2 h]
 case load g s a=>rw[h a (by simp)]
 case store slc s a x=>rw[h a (by simp),h x (by simp)]
 case nilCheck x=>rw[h x (by simp)]
 case bin op eq x y=>rw[h x (by simp),h y (by simp)]
 case un op x=>rw[h x (by simp)]
 case eqA neg n x y=>rw[h x (by simp),h y (by simp)]
 case convI k x=>rw[h x (by simp)]
 case convS x=>rw[h x (by simp)]
 case fn f cs=>rw[Za2 h]
 case make s b z l c=>rw[h l (by simp),h c (by simp)]
 case slice s x lo hi=>rw[h x (by simp),Zc9 fun y hy=>h y (by simp[hy]),Zc9 (x:=hi) fun y hy=>h y (by simp[hy])]
 case sliceS x lo hi=>rw[h x (by simp),Zc9 fun y hy=>h y (by simp[hy]),Zc9 (x:=hi) fun y hy=>h y (by simp[hy])]
 case slice0 x hi mx=>rw[h x (by simp),h hi (by simp),h mx (by simp)]
 case shift off x=>rw[h x (by simp)]
 case part g s off x=>rw[h x (by simp)]
 case iaS s x i=>rw[h x (by simp),h i (by simp)]
 case iaA len s x i=>rw[h x (by simp),h i (by simp)]
 case ixS x i=>rw[h x (by simp),h i (by simp)]
 case ixA g s len x i=>rw[h x (by simp),h i (by simp)]
 case nth i x=>rw[h x (by simp)]
 case len x=>rw[h x (by simp)]
 case lenS x=>rw[h x (by simp)]
 case append s b str flat x y=>rw[h x (by simp),h y (by simp)]
 case min x y=>rw[h x (by simp),h y (by simp)]
 case max x y=>rw[h x (by simp),h y (by simp)]
 case slice3 s x lo hi mx=>rw[h x (by simp),h lo (by simp),h hi (by simp),h mx (by simp)]
 case clear s z x=>rw[h x (by simp)]
 case buildT s n xs=>rw[Za2 h]
 case appT s b f x y=>rw[h x (by simp),h y (by simp)]
 case asgT s n x=>rw[h x (by simp)]
 case makeT s b n z l c=>rw[h l (by simp),h c (by simp)]
 case call f as=>rw[h f (by simp),Za2 (xs:=as) fun y hy=>h y (Ks _ hy)]
section
variable {U:Nat→Prop} {hp hp' : Hp}
structure QQ (U:Nat→Prop) (hp hp' : Hp):Prop where
 same:∀ id,U id→lkp hp id=lkp hp' id
 closed:∀ id o,U id→lkp hp id=some o→∀ i∈WP o,U i
def InU (U:Nat→Prop) (x:AV):Prop:=∀ id∈Zo x,U id
theorem Zno (h:QQ U hp hp') {x:AV} (hx:InU U x) (g:Bool) (s:Nat):Wa hp g s x=Wa hp' g s x:=by
 cases x<;>simp only[Wa]
 case ptr id off=>rw[h.same id (hx id (by simp[Zo,Zp,Ze]))]
 case prow id sz i off=>rw[h.same id (hx id (by simp[Zo,Zp,Ze]))]
theorem Zf2 (h:QQ U hp hp') {x:AV} (hx:InU U x) (sz n:Nat):Qk hp sz n x=Qk hp' sz n x:=by
 cases x<;>simp only[Qk]
 case d x=>cases x<;>rfl
 case own id=>rw[h.same id (hx id (by simp[Zo,Zp,Ze]))]
 case ownv id off m=>rw[h.same id (hx id (by simp[Zo,Zp,Ze]))]
theorem Zmd (h:QQ U hp hp') {x:AV} (hx:InU U x) (s:Nat) (lo hi:Option AV):YP hp s lo hi x=YP hp' s lo hi x:=by
 cases x<;>simp only[YP]
 case d x=>cases x<;>rfl
 case own id=>rw[h.same id (hx id (by simp[Zo,Zp,Ze]))]
 case ownv id off m=>rw[h.same id (hx id (by simp[Zo,Zp,Ze]))]
theorem Zeb (h:QQ U hp hp') {x:AV} (hx:InU U x):ZaE hp x=ZaE hp' x:=by
 cases x<;>simp only[ZaE]
 case d x=>cases x<;>rfl
 case own id=>rw[h.same id (hx id (by simp[Zo,Zp,Ze]))]
theorem Zme (h:QQ U hp hp') {x:AV} (hx:InU U x) (s:Nat) (z:D):ZbE hp s z x=ZbE hp' s z x:=by
 cases x<;>simp only[ZbE]
 case ownv id off m=>rw[h.same id (hx id (by simp[Zo,Zp,Ze]))]
theorem Znp (h:QQ U hp hp') {x:AV} (hx:InU U x) (flat:Bool):Zcz hp flat x=Zcz hp' flat x:=by
 cases x<;>simp only[Zcz]
 case d x=>cases x<;>rfl
 case own id=>rw[h.same id (hx id (by simp[Zo,Zp,Ze]))]
 case ownv id off m=>rw[h.same id (hx id (by simp[Zo,Zp,Ze]))]
theorem Znq (h:QQ U hp hp') {x:AV} (hx:InU U x) (sz b base:Nat) (aa:List Nat) (ys:List D) (ex:Bool):ZdV hp sz b base aa ys ex x=ZdV hp' sz b base aa ys ex x:=by
 cases x<;>simp only[ZdV]
 case own id=>rw[h.same id (hx id (by simp[Zo,Zp,Ze]))]
 case ownv id off m=>rw[h.same id (hx id (by simp[Zo,Zp,Ze]))]
theorem ZkE (h:QQ U hp hp') {x:AV} (hx:InU U x):Zak hp x=Zak hp' x:=by
 cases x<;>simp only[Zak]
 case own id=>rw[h.same id (hx id (by simp[Zo,Zp,Ze]))]
theorem ZkF (h:QQ U hp hp') {x:AV} (hx:InU U x) (s b base id n:Nat) (ys:List D):Jj hp s b base id n ys x=Jj hp' s b base id n ys x:=by
 cases x<;>simp only[Jj]
 case own k=>rw[h.same k (hx k (by simp[Zo,Zp,Ze]))]
theorem ZdJ (h:QQ U hp hp') {x y:AV} (hx:InU U x) (hy:InU U y) (s b:Nat) (str flat:Bool) (base:Nat):WY hp s b str flat base x y=WY hp' s b str flat base x y:=by
 unfold WY;rw[Znp h hy];congr 1
 funext q
 rw[Znq h hx]
theorem ZeY (h:QQ U hp hp') {x:AV} (hx:InU U x):Xi hp x=Xi hp' x:=by
 cases x<;>simp only[Xi]
 case own id=>rw[h.same id (hx id (by simp[Zo,Zp,Ze]))]
theorem Zmf (h:QQ U hp hp') (ids:List Nat):QQ U (meltIn hp ids) (meltIn hp' ids):=by
 refine⟨fun id aa=>by rw[Wm,Wm,h.same id aa],fun id o aa hl=>?_⟩;rw[Wm] at hl;cases hl0:lkp hp id with
 | none=>rw[hl0] at hl;cases hl
 | some o0=>
  rw[hl0] at hl;simp only[KU,Option.some.injEq] at hl;subst hl;have:=h.closed id o0 aa hl0;split
  ·cases o0 with
   | tree s n xs l=>cases l<;>exact this
   | _=>exact this
  ·exact this
theorem ZdK (h:QQ U hp hp') {x y:AV} (hx:InU U x) (hy:InU U y) (s b:Nat) (str flat:Bool) (base:Nat) (ms:List Nat):Yo hp s b str flat base x y ms=Yo hp' s b str flat base x y ms:=by
 cases ms with
 | nil=>exact ZdJ h hx hy s b str flat base
 | cons i r=>simp only[Yo];rw[ZdJ (Zmf h (i :: r)) hx hy]
theorem ZiQ (h:QQ U hp hp') {x y:AV} (hx:InU U x) (hy:InU U y) (s b base:Nat):appT hp s b base x y=appT hp' s b base x y:=by
 unfold appT;rw[ZkE h hy];congr 2
 funext q
 rw[ZkF h hx]
theorem ZgI (h:QQ U hp hp') {x:AV} (hx:∀ id∈Ze x,U id):U7 hp x=U7 hp' x:=by
 cases x<;>simp only[U7]
 case own id=>rw[h.same id (hx id (by simp[Ze]))]
theorem Zcp (h:QQ U hp hp'):∀ {xs:List AV},(∀ id∈xs.flatMap Ze,U id)→YS hp xs=YS hp' xs
 | [],_=>rfl
 | x :: xs,hx=>by
  simp only[YS];rw[ZgI h fun id aa=>hx id (by simp only[KG,Kc];exact .inl aa),Zcp h (xs:=xs) fun id aa=>hx id (by simp only[KG,Kc];exact .inr aa)]
theorem Znr (h:QQ U hp hp') {n:Nat} {x:AV} (hx:∀ id∈Ze x,U id):Zcy hp n x=Zcy hp' n x:=by
 cases x<;>simp only[Zcy]
 case own id=>rw[h.same id (hx id (by simp[Ze]))]
theorem Zaf (h:QQ U hp hp') {n:Nat}:∀ {xs:List AV},(∀ id∈xs.flatMap Ze,U id)→YW hp n xs=YW hp' n xs
 | [],_=>rfl
 | x :: xs,hx=>by
  simp only[YW];rw[Znr h fun id aa=>hx id (by simp only[KG,Kc];exact .inl aa),Zaf h (xs:=xs) fun id aa=>hx id (by simp only[KG,Kc];exact .inr aa)]
theorem ZaF (h:QQ U hp hp') {n s:Nat}:∀ {xs:List AV},(∀ x∈xs,InU U x)→Yn hp n s xs=Yn hp' n s xs
 | [],_=>rfl
 | x :: xs,hx=>by
  cases x<;>simp only[Yn]
  case agg cs=>rw[Zaf h (hx (.agg cs) (by simp)),ZaF h (xs:=xs) fun x hm=>hx x (Ks _ hm)]
  case own id=>rw[Zaf h (xs:=[.own id]) (fun i hi=>hx (.own id) (by simp) i (by simpa [Zo,Zp,Ze] using hi)),ZaF h (xs:=xs) fun x hm=>hx x (Ks _ hm)]
theorem Zmg (h:QQ U hp hp') {base s n:Nat} {xs:List AV} (hx:∀ x∈xs,InU U x):buildT hp base s n xs=buildT hp' base s n xs:=by
 unfold buildT;rw[ZaF h hx]
theorem Zmh (h:QQ U hp hp') {x:AV} (hx:InU U x) (slc:List (Option Nat)) (s base:Nat) (vs:List AV) (hv:∀ id∈vs.flatMap Ze,U id):U0 hp slc s base vs x=U0 hp' slc s base vs x:=by
 cases x<;>simp only[U0]
 case ptr id off=>rw[h.same id (hx id (by simp[Zo,Zp,Ze]))]
 case prow id sz i off=>
  rw[h.same id (hx id (by simp[Zo,Zp,Ze]))];unfold JN;rw[Zcp h hv];have ht:∀ n,YW hp n vs=YW hp' n vs:=fun n=>Zaf h hv;simp only[ht]
theorem ZiR {x:AV} (hx:InU U x):∀ id∈x.cells.flatMap Ze,U id:=by
 intro id aa;refine hx id ?_;cases x<;>simp only[AV.cells] at aa<;>first
  | (simp[Ze] at aa;done)
  | (obtain⟨c,hc,ab⟩:=Kr.1 aa;obtain⟨y,_,rfl⟩:=KQ.1 hc;simp[Ze] at ab;done)
  | (simpa [Zo,Zp,Ze] using aa)
theorem ZoO (h:QQ U hp hp') {x:AV} (hx:InU U x):give hp x=give hp' x:=by
 cases x with
 | agg cs=>simp only[give];rw[Zcp h hx]
 | own id=>exact ZgI h (x:=.own id) hx
 | _=>rfl
theorem ZdL (h:QQ U hp hp'):∀ {xs:List AV},(∀ x∈xs,InU U x)→VG hp xs=VG hp' xs
 | [],_=>rfl
 | x :: xs,hx=>by
  simp only[VG];rw[ZoO h (hx x (by simp)),ZdL h (xs:=xs) fun y hy=>hx y (Ks _ hy)]
theorem Zby (h:QQ U hp hp') {x:AV} (hx:∀ id∈Ze x,U id):Zdw hp x=Zdw hp' x:=by
 cases x<;>simp only[Zdw]
 case own id=>rw[h.same id (hx id (by simp[Ze]))]
 case ownv id off n=>rw[h.same id (hx id (by simp[Ze]))]
theorem ZiS (h:QQ U hp hp'):∀ {xs:List AV},(∀ id∈xs.flatMap Ze,U id)→Qi (Zdw hp) xs=Qi (Zdw hp') xs
 | [],_=>rfl
 | x :: xs,hx=>by
  simp only[Qi];rw[Zby h fun id aa=>hx id (by simp only[KG,Kc];exact .inl aa),ZiS h (xs:=xs) fun id aa=>hx id (by simp only[KG,Kc];exact .inr aa)]
theorem Zk3 (h:QQ U hp hp') {x:AV} (hx:InU U x):toD hp x=toD hp' x:=by
 cases x with
 | agg cs=>simp only[toD];rw[ZiS h hx]
 | own id=>exact Zby h (x:=.own id) hx
 | ownv id off n=>exact Zby h (x:=.ownv id off n) hx
 | _=>rfl
theorem ZoP (h:QQ U hp hp') (m:Bool) {x:AV} (hx:InU U x):J8 hp m x=J8 hp' m x:=by
 cases x with
 | own id=>
  simp only[J8];cases m
  ·simp only[ZbF];rw[Zby h (x:=.own id) hx]
  ·rfl
 | agg cs=>
  simp only[J8];cases m
  ·simp only[ZbG];rw[Zk3 h hx]
  ·rfl
 | ownv id off n=>simp only[J8];rw[Zk3 h hx]
 | _=>rfl
theorem ZiT (h:QQ U hp hp') (m:Nat→Bool):∀ {xs:List AV} (i:Nat),(∀ x∈xs,InU U x)→args hp m i xs=args hp' m i xs
 | [],i,_=>rfl
 | x :: xs,i,hx=>by
  simp only[args];rw[ZoP h (m i) (hx x (by simp)),ZiT h m (xs:=xs) (i+1) fun y hy=>hx y (Ks _ hy)]
theorem Zt4 {m:Bool} {x y:AV} (hx:InU U x) (h:J8 hp m x=some y):InU U y:=by
 unfold J8 at h;split at h
 ·cases h;exact hx
 ·cases h;exact hx
 ·cases h;exact hx
 ·cases h;exact hx
 ·cases h;exact hx
 ·rename_i id;cases m
  ·simp only[ZbF,asD] at h;obtain⟨d,_,h⟩:=Za h;cases h;exact fun id aa=>by simp[Zo,Zp,Ze] at aa
  ·simp only[ZbF] at h;cases h;exact hx
 ·cases m
  ·simp only[ZcA] at h;cases h;exact fun id aa=>by simp[Zo,Zp,Ze] at aa
  ·simp only[ZcA] at h;cases h;exact hx
 ·cases h;exact hx
 ·cases m
  ·simp only[ZbG,asD] at h;obtain⟨d,_,h⟩:=Za h;cases h;exact fun id aa=>by simp[Zo,Zp,Ze] at aa
  ·simp only[ZbG] at h;split at h
   ·cases h
   ·cases h;exact hx
 ·obtain⟨d,_,h⟩:=Za h;cases h;exact fun id aa=>by simp[Zo,Zp,Ze] at aa
theorem Zp5 {m:Nat→Bool}:∀ {xs ys:List AV} (i:Nat),(∀ x∈xs,InU U x)→args hp m i xs=some ys→∀ y∈ys,InU U y
 | [],ys,i,_,h=>by simp only[args] at h;cases h;simp
 | x :: xs,ys,i,hx,h=>by
  simp only[args] at h;obtain⟨y,h1,h⟩:=Za h;obtain⟨aa,h2,h⟩:=Za h;cases h;intro z hz;rcases Ke.1 hz with rfl | hz
  ·exact Zt4 (hx x (by simp)) h1
  ·exact Zp5 (i+1) (fun y hy=>hx y (by simp[hy])) h2 z hz
theorem Zag (h:QQ U hp hp'):∀ (n:Nat) (todo aa:List Nat),(∀ i∈todo,U i)→QF hp n todo aa=QF hp' n todo aa
 | 0,todo,aa,_=>by simp only[QF]
 | n+1,[],aa,_=>by simp only[QF]
 | n+1,id :: todo,aa,ht=>by
  simp only[QF];rw[Zag h n todo aa fun i hi=>ht i (by simp[hi])];rw[← h.same id (ht id (by simp))];cases hl:lkp hp id with
  | none=>simp only[WZ];rw[Zag h n todo aa fun i hi=>ht i (by simp[hi])]
  | some o=>
   simp only[WZ];rw[Zag h n (todo++WP o) (aa++[id]) fun i hi=>by
    rcases Kc.1 hi with hi | hi
    ·exact ht i (by simp[hi])
    ·exact h.closed id o (ht id (by simp)) hl i hi]
theorem ZeZ (h:QQ U hp hp'):∀ (n:Nat) (todo aa:List Nat),(∀ i∈todo,U i)→(∀ i∈aa,U i)→∀ i∈QF hp n todo aa,U i
 | 0,todo,aa,_,ha=>by simp only[QF];exact ha
 | n+1,[],aa,_,ha=>by simp only[QF];exact ha
 | n+1,id :: todo,aa,ht,ha=>by
  simp only[QF];split
  ·exact ZeZ h n todo aa (fun i hi=>ht i (by simp[hi])) ha
  ·cases hl:lkp hp id with
   | none=>simp only[WZ];exact ZeZ h n todo aa (fun i hi=>ht i (by simp[hi])) ha
   | some o=>
    simp only[WZ];refine ZeZ h n (todo++WP o) (aa++[id]) (fun i hi=>?_) fun i hi=>?_
    ·rcases Kc.1 hi with hi | hi
     ·exact ht i (by simp[hi])
     ·exact h.closed id o (ht id (by simp)) hl i hi
    ·rcases Kc.1 hi with hi | hi
     ·exact ha i hi
     ·simp at hi;subst hi;exact ht i (by simp)
theorem ZiU (h:QQ U hp hp'):∀ {ids:List Nat},(∀ i∈ids,U i)→ZaH hp ids=ZaH hp' ids
 | [],_=>rfl
 | i :: ids,hi=>by simp only[ZaH,h.same i (hi i (by simp)),ZiU h (ids:=ids) fun j hj=>hi j (Ks _ hj)]
theorem ZiV (h:QQ U hp hp') {base:Nat} {ids aa:List Nat} (hi:∀ i∈ids,U i) (hl:∀ i∈aa,U i) (keep:Bool) (r:AV) (out:List Zg):US keep hp base ids aa r out=US keep hp' base ids aa r out:=by
 unfold US;have:Zga hp ids out keep=Zga hp' ids out keep:=by
  cases keep
  ·exact List.filter_congr fun i hm=>by rw[h.same i (hi i hm)]
  ·rfl
 have h2:∀ {l:List Nat},(∀ i∈l,U i)→(l.any fun i=>JT (lkp hp i))=l.any fun i=>JT (lkp hp' i):=by
  intro l
  induction l with
  | nil=>intro _;rfl
  | cons i l ih=>intro hl;simp only[List.any_cons];rw[h.same i (hl i (by simp)),ih fun k hk=>hl k (by simp[hk])]
 rw[this,h2 hl]
theorem Zsx (x:AV):∀ i∈Zac x,i∈Ze x:=by
 intro i hi;cases x<;>simp only[Zac,Ze] at hi ⊢ <;> first | exact hi | (simp at hi)
theorem Zq2 (x:AV):∀ i∈Zbv x,i∈Zo x:=by
 intro i hi;cases x with
 | agg cs=>
  obtain⟨c,hc,hi⟩:=Kr.1 hi;exact Kr.2 ⟨c,hc,Zsx c i hi⟩
 | own id=>exact hi
 | ownv id a b=>exact hi
 | _=>simp[Zbv,Zac] at hi
theorem Zk4:∀ {xs ys:List AV},(∀ x∈xs,InU U x)→∀ i∈XW xs ys,U i
 | [],ys,_,i,hi=>by cases ys<;>simp[XW] at hi
 | x :: xs,[],_,i,hi=>by simp[XW] at hi
 | x :: xs,y :: ys,hx,i,hi=>by
  have ih:=Zk4 (ys:=ys) fun z hz=>hx z (Ks _ hz);cases y<;>simp only[XW] at hi<;>first | exact ih i hi | skip
  rcases Kc.1 hi with hi | hi
  ·exact hx x (by simp) i (Zq2 x i hi)
  ·exact ih i hi
theorem ZdM (h:QQ U hp hp') (rs:List Nat):∀ {ids:List Nat},(∀ i∈ids,U i)→Ji hp rs ids=Ji hp' rs ids
 | [],_=>rfl
 | i :: ids,hi=>by
  have ih:=ZdM h rs (ids:=ids) fun k hk=>hi k (by simp[hk]);simp only[Ji,Lv] at ih ⊢;rw[ih,h.1 i (hi i (by simp))]
theorem Zns (h:QQ U hp hp') (C:Orc) (m:Nat→Bool) (base f:Nat) {ab:List AV} (hx:∀ x∈ab,InU U x):Zaj C m hp base f ab=Zaj C m hp' base f ab:=by
 unfold Zaj;rw[← ZiT h m 0 hx];cases ha:args hp m 0 ab with
 | none=>rfl
 | some as=>
  simp only[bnd];have ad:=Zp5 0 hx ha;have ht:∀ i∈as.flatMap Zo,U i:=fun i hi=>by
   obtain⟨y,hy,hi⟩:=Kr.1 hi;exact ad y hy i hi
  have hf:Xh hp=Xh hp':=rfl;rw[hf,← Zag h (Xh hp') (as.flatMap Zo) [] ht];have aa:=ZeZ h (Xh hp') (as.flatMap Zo) [] ht (by simp);unfold ZbH;rw[ZiU h aa,ZdM h _ aa];congr 1
  congr 1
  funext q
  exact ZiV h aa (Zk4 hx) (m 99) q.1 q.2
theorem clo_in {f:Nat} {aa:List AV} (h:InU U (.clo f aa)):∀ x∈aa,x.atom=true→InU U x:=by
 intro x hx ha id ab;refine h id (Kr.2 ⟨x,hx,?_⟩);cases x<;>first | exact ab | (simp[AV.atom] at ha)
end
end Go.Abs
