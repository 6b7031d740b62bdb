/- Own text. -/
import Derived.Test.YtnachaiejoflhaaAbsSound2
set_option linter.unusedVariables false
set_option linter.unusedSimpArgs false
namespace Go.Abs
open Go
theorem U5 {sl sl' : Sl}:∀ {xs:List Opd},(∀ x∈xs,evO sl x=evO sl' x)→evL sl xs=evL sl' xs
 | [],_=>rfl
 | x :: xs,h=>by simp only[evL,h x (by simp),U5 (xs:=xs) fun y hy=>h y (Kn _ hy)]
theorem Zh5 {sl sl' : Sl}:∀ {xs:List (Nat×Nat×Opd)},(∀ x∈xs.map (fun q=>q.2.2),evO sl x=evO sl' x)→evP sl xs=evP sl' xs
 | [],_=>rfl
 | (a,b,x) :: xs,h=>by simp only[evP,h x (by simp),Zh5 (xs:=xs) fun y hy=>h y (by simp only[Kw,Kf];exact .inr hy)]
theorem Za9 {sl sl' : Sl} {x:Option Opd} (h:∀ y∈Zml x,evO sl y=evO sl' y):evM sl x=evM sl' x:=by
 cases x with
 | none=>rfl
 | some y=>simp only[evM,h y (by simp[Zml])]
theorem Qx (C:Orc) (M:Zf) {sl sl' : Sl} (hp:Hp) (base:Nat):∀ {c:COp},(∀ x∈Zq c,evO sl x=evO sl' x)→vop C M sl hp base c=vop C M sl' hp base c:=by
 intro c h;cases c<;>simp only[Zq] at h<;>simp only[vop]
 case move x=>rw[h x (by simp)]
 case assign s x=>rw[h x (by simp)]
 case pick c a b=>rw[h c (by simp),h a (by simp),h b (by simp)]
 case box x=>rw[h x (by simp)]
 case build zs ps=>rw[Zh5 h]
 case buildSl s xs=>rw[U5 h]
 case load g s a=>rw[h a (by simp)]
 case store slc s a x=>rw[h a (by simp),h x (by simp)]
 case nilCheck x=>rw[h x (by simp)]
 case bin op eq x y=>rw[h x (by simp),h y (by simp)]
 case un op x=>rw[h x (by simp)]
 case eqA neg n x y=>rw[h x (by simp),h y (by simp)]
 case convI k x=>rw[h x (by simp)]
 case convS x=>rw[h x (by simp)]
 case fn f cs=>rw[U5 h]
 case make s b z l c=>rw[h l (by simp),h c (by simp)]
 case slice s x lo hi=>rw[h x (by simp),Za9 fun y hy=>h y (by simp[hy]),Za9 (x:=hi) fun y hy=>h y (by simp[hy])]
 case sliceS x lo hi=>rw[h x (by simp),Za9 fun y hy=>h y (by simp[hy]),Za9 (x:=hi) fun y hy=>h y (by simp[hy])]
 case slice0 x hi mx=>rw[h x (by simp),h hi (by simp),h mx (by simp)]
 case shift off x=>rw[h x (by simp)]
 case part g s off x=>rw[h x (by simp)]
 case iaS s x i=>rw[h x (by simp),h i (by simp)]
 case iaA len s x i=>rw[h x (by simp),h i (by simp)]
 case ixS x i=>rw[h x (by simp),h i (by simp)]
 case ixA g s len x i=>rw[h x (by simp),h i (by simp)]
 case nth i x=>rw[h x (by simp)]
 case len x=>rw[h x (by simp)]
 case lenS x=>rw[h x (by simp)]
 case append s b str flat x y=>rw[h x (by simp),h y (by simp)]
 case min x y=>rw[h x (by simp),h y (by simp)]
 case max x y=>rw[h x (by simp),h y (by simp)]
 case slice3 s x lo hi mx=>rw[h x (by simp),h lo (by simp),h hi (by simp),h mx (by simp)]
 case clear s z x=>rw[h x (by simp)]
 case buildT s n xs=>rw[U5 h]
 case appT s b f x y=>rw[h x (by simp),h y (by simp)]
 case asgT s n x=>rw[h x (by simp)]
 case makeT s b n z l c=>rw[h l (by simp),h c (by simp)]
 case call f as=>rw[h f (by simp),U5 (xs:=as) fun y hy=>h y (Kn _ hy)]
section
variable {U:Nat→Prop} {hp hp' : Hp}
structure QA (U:Nat→Prop) (hp hp' : Hp):Prop where
 same:∀ id,U id→lkp hp id=lkp hp' id
 closed:∀ id o,U id→lkp hp id=some o→∀ i∈Ve o,U i
def InU (U:Nat→Prop) (x:AV):Prop:=∀ id∈Zl x,U id
theorem Zko (h:QA U hp hp') {x:AV} (hx:InU U x) (g:Bool) (s:Nat):YI hp g s x=YI hp' g s x:=by
 cases x<;>simp only[YI]
 case ptr id off=>rw[h.same id (hx id (by simp[Zl,Zn,Ze]))]
 case prow id sz i off=>rw[h.same id (hx id (by simp[Zl,Zn,Ze]))]
theorem Zdy (h:QA U hp hp') {x:AV} (hx:InU U x) (sz n:Nat):Z6 hp sz n x=Z6 hp' sz n x:=by
 cases x<;>simp only[Z6]
 case d x=>cases x<;>rfl
 case own id=>rw[h.same id (hx id (by simp[Zl,Zn,Ze]))]
 case ownv id off m=>rw[h.same id (hx id (by simp[Zl,Zn,Ze]))]
theorem Zi9 (h:QA U hp hp') {x:AV} (hx:InU U x) (s:Nat) (lo hi:Option AV):XS hp s lo hi x=XS hp' s lo hi x:=by
 cases x<;>simp only[XS]
 case d x=>cases x<;>rfl
 case own id=>rw[h.same id (hx id (by simp[Zl,Zn,Ze]))]
 case ownv id off m=>rw[h.same id (hx id (by simp[Zl,Zn,Ze]))]
theorem Zb1 (h:QA U hp hp') {x:AV} (hx:InU U x):UK hp x=UK hp' x:=by
 cases x<;>simp only[UK]
 case d x=>cases x<;>rfl
 case own id=>rw[h.same id (hx id (by simp[Zl,Zn,Ze]))]
theorem Zja (h:QA U hp hp') {x:AV} (hx:InU U x) (s:Nat) (z:D):JC hp s z x=JC hp' s z x:=by
 cases x<;>simp only[JC]
 case ownv id off m=>rw[h.same id (hx id (by simp[Zl,Zn,Ze]))]
theorem Zkp (h:QA U hp hp') {x:AV} (hx:InU U x) (flat:Bool):ZaB hp flat x=ZaB hp' flat x:=by
 cases x<;>simp only[ZaB]
 case d x=>cases x<;>rfl
 case own id=>rw[h.same id (hx id (by simp[Zl,Zn,Ze]))]
 case ownv id off m=>rw[h.same id (hx id (by simp[Zl,Zn,Ze]))]
theorem Zkq (h:QA U hp hp') {x:AV} (hx:InU U x) (sz b base:Nat) (aa:List Nat) (ys:List D) (ex:Bool):ZbM hp sz b base aa ys ex x=ZbM hp' sz b base aa ys ex x:=by
 cases x<;>simp only[ZbM]
 case own id=>rw[h.same id (hx id (by simp[Zl,Zn,Ze]))]
 case ownv id off m=>rw[h.same id (hx id (by simp[Zl,Zn,Ze]))]
theorem Zho (h:QA U hp hp') {x:AV} (hx:InU U x):JH hp x=JH hp' x:=by
 cases x<;>simp only[JH]
 case own id=>rw[h.same id (hx id (by simp[Zl,Zn,Ze]))]
theorem Zhp (h:QA U hp hp') {x:AV} (hx:InU U x) (s b base id n:Nat) (ys:List D):Uz hp s b base id n ys x=Uz hp' s b base id n ys x:=by
 cases x<;>simp only[Uz]
 case own k=>rw[h.same k (hx k (by simp[Zl,Zn,Ze]))]
theorem ZbA (h:QA U hp hp') {x y:AV} (hx:InU U x) (hy:InU U y) (s b:Nat) (str flat:Bool) (base:Nat):Vm hp s b str flat base x y=Vm hp' s b str flat base x y:=by
 unfold Vm;rw[Zkp h hy];congr 1
 funext q
 rw[Zkq h hx]
theorem ZcD (h:QA U hp hp') {x:AV} (hx:InU U x):XE hp x=XE hp' x:=by
 cases x<;>simp only[XE]
 case own id=>rw[h.same id (hx id (by simp[Zl,Zn,Ze]))]
theorem Zjb (h:QA U hp hp') (ids:List Nat):QA U (meltIn hp ids) (meltIn hp' ids):=by
 refine⟨fun id aa=>by rw[Y0,Y0,h.same id aa],fun id o aa hl=>?_⟩;rw[Y0] at hl;cases hl0:lkp hp id with
 | none=>rw[hl0] at hl;cases hl
 | some o0=>
  rw[hl0] at hl;simp only[KO,Option.some.injEq] at hl;subst hl;have:=h.closed id o0 aa hl0;split
  ·cases o0 with
   | tree s n xs l=>cases l<;>exact this
   | _=>exact this
  ·exact this
theorem Zhq (h:QA U hp hp') {x y:AV} (hx:InU U x) (hy:InU U y) (s b:Nat) (str flat:Bool) (base:Nat) (ms:List Nat):Yt hp s b str flat base x y ms=Yt hp' s b str flat base x y ms:=by
 cases ms with
 | nil=>exact ZbA h hx hy s b str flat base
 | cons i r=>simp only[Yt];rw[ZbA (Zjb h (i :: r)) hx hy]
theorem ZlQ (h:QA U hp hp') {x y:AV} (hx:InU U x) (hy:InU U y) (s b base:Nat):appT hp s b base x y=appT hp' s b base x y:=by
 unfold appT;rw[Zho h hy];congr 2
 funext q
 rw[Zhp h hx]
theorem Zei (h:QA U hp hp') {x:AV} (hx:∀ id∈Ze x,U id):Ww hp x=Ww hp' x:=by
 cases x<;>simp only[Ww]
 case own id=>rw[h.same id (hx id (by simp[Ze]))]
theorem Zaq (h:QA U hp hp'):∀ {xs:List AV},(∀ id∈xs.flatMap Ze,U id)→XW hp xs=XW hp' xs
 | [],_=>rfl
 | x :: xs,hx=>by
  simp only[XW];rw[Zei h fun id aa=>hx id (by simp only[Kt,Kc];exact .inl aa),Zaq h (xs:=xs) fun id aa=>hx id (by simp only[Kt,Kc];exact .inr aa)]
theorem Zkr (h:QA U hp hp') {n:Nat} {x:AV} (hx:∀ id∈Ze x,U id):ZaA hp n x=ZaA hp' n x:=by
 cases x<;>simp only[ZaA]
 case own id=>rw[h.same id (hx id (by simp[Ze]))]
theorem Zar (h:QA U hp hp') {n:Nat}:∀ {xs:List AV},(∀ id∈xs.flatMap Ze,U id)→Yc hp n xs=Yc hp' n xs
 | [],_=>rfl
 | x :: xs,hx=>by
  simp only[Yc];rw[Zkr h fun id aa=>hx id (by simp only[Kt,Kc];exact .inl aa),Zar h (xs:=xs) fun id aa=>hx id (by simp only[Kt,Kc];exact .inr aa)]
theorem ZbB (h:QA U hp hp') {n s:Nat}:∀ {xs:List AV},(∀ x∈xs,InU U x)→YT hp n s xs=YT hp' n s xs
 | [],_=>rfl
 | x :: xs,hx=>by
  cases x<;>simp only[YT]
  rename_i cs;rw[Zar h (hx (.agg cs) (by simp)),ZbB h (xs:=xs) fun x hm=>hx x (Kn _ hm)]
theorem Zjc (h:QA U hp hp') {base s n:Nat} {xs:List AV} (hx:∀ x∈xs,InU U x):buildT hp base s n xs=buildT hp' base s n xs:=by
 unfold buildT;rw[ZbB h hx]
theorem Zjd (h:QA U hp hp') {x:AV} (hx:InU U x) (slc:List (Option Nat)) (s base:Nat) (vs:List AV) (hv:∀ id∈vs.flatMap Ze,U id):Wq hp slc s base vs x=Wq hp' slc s base vs x:=by
 cases x<;>simp only[Wq]
 case ptr id off=>rw[h.same id (hx id (by simp[Zl,Zn,Ze]))]
 case prow id sz i off=>
  rw[h.same id (hx id (by simp[Zl,Zn,Ze]))];unfold WZ;rw[Zaq h hv];have ht:∀ n,Yc hp n vs=Yc hp' n vs:=fun n=>Zar h hv;simp only[ht]
theorem Zfz {x:AV} (hx:InU U x):∀ id∈x.cells.flatMap Ze,U id:=by
 intro id aa;refine hx id ?_;cases x<;>simp only[AV.cells] at aa<;>first
  | (simp[Ze] at aa;done)
  | (obtain⟨c,hc,ab⟩:=Kl.1 aa;obtain⟨y,_,rfl⟩:=KZ.1 hc;simp[Ze] at ab;done)
  | (simpa [Zl,Zn,Ze] using aa)
theorem ZlR (h:QA U hp hp') {x:AV} (hx:InU U x):give hp x=give hp' x:=by
 cases x with
 | agg cs=>simp only[give];rw[Zaq h hx]
 | own id=>exact Zei h (x:=.own id) hx
 | _=>rfl
theorem ZbC (h:QA U hp hp'):∀ {xs:List AV},(∀ x∈xs,InU U x)→Yr hp xs=Yr hp' xs
 | [],_=>rfl
 | x :: xs,hx=>by
  simp only[Yr];rw[ZlR h (hx x (by simp)),ZbC h (xs:=xs) fun y hy=>hx y (Kn _ hy)]
theorem Jw (h:QA U hp hp') {x:AV} (hx:∀ id∈Ze x,U id):Zbx hp x=Zbx hp' x:=by
 cases x<;>simp only[Zbx]
 case own id=>rw[h.same id (hx id (by simp[Ze]))]
 case ownv id off n=>rw[h.same id (hx id (by simp[Ze]))]
theorem ZfA (h:QA U hp hp'):∀ {xs:List AV},(∀ id∈xs.flatMap Ze,U id)→Z3 (Zbx hp) xs=Z3 (Zbx hp') xs
 | [],_=>rfl
 | x :: xs,hx=>by
  simp only[Z3];rw[Jw h fun id aa=>hx id (by simp only[Kt,Kc];exact .inl aa),ZfA h (xs:=xs) fun id aa=>hx id (by simp only[Kt,Kc];exact .inr aa)]
theorem Zh6 (h:QA U hp hp') {x:AV} (hx:InU U x):toD hp x=toD hp' x:=by
 cases x with
 | agg cs=>simp only[toD];rw[ZfA h hx]
 | own id=>exact Jw h (x:=.own id) hx
 | ownv id off n=>exact Jw h (x:=.ownv id off n) hx
 | _=>rfl
theorem ZlS (h:QA U hp hp') (m:Bool) {x:AV} (hx:InU U x):Ur hp m x=Ur hp' m x:=by
 cases x with
 | own id=>
  simp only[Ur];cases m
  ·simp only[JD];rw[Jw h (x:=.own id) hx]
  ·rfl
 | agg cs=>
  simp only[Ur];cases m
  ·simp only[JE];rw[Zh6 h hx]
  ·rfl
 | ownv id off n=>simp only[Ur];rw[Zh6 h hx]
 | _=>rfl
theorem ZfB (h:QA U hp hp') (m:Nat→Bool):∀ {xs:List AV} (i:Nat),(∀ x∈xs,InU U x)→args hp m i xs=args hp' m i xs
 | [],i,_=>rfl
 | x :: xs,i,hx=>by
  simp only[args];rw[ZlS h (m i) (hx x (by simp)),ZfB h m (xs:=xs) (i+1) fun y hy=>hx y (Kn _ hy)]
theorem Zqw {m:Bool} {x y:AV} (hx:InU U x) (h:Ur hp m x=some y):InU U y:=by
 unfold Ur at h;split at h
 ·cases h;exact hx
 ·cases h;exact hx
 ·cases h;exact hx
 ·cases h;exact hx
 ·cases h;exact hx
 ·rename_i id;cases m
  ·simp only[JD,asD] at h;obtain⟨d,_,h⟩:=Za h;cases h;exact fun id aa=>by simp[Zl,Zn,Ze] at aa
  ·simp only[JD] at h;cases h;exact hx
 ·cases m
  ·simp only[ZaC] at h;cases h;exact fun id aa=>by simp[Zl,Zn,Ze] at aa
  ·simp only[ZaC] at h;cases h;exact hx
 ·cases h;exact hx
 ·cases m
  ·simp only[JE,asD] at h;obtain⟨d,_,h⟩:=Za h;cases h;exact fun id aa=>by simp[Zl,Zn,Ze] at aa
  ·simp only[JE] at h;split at h
   ·cases h
   ·cases h;exact hx
 ·obtain⟨d,_,h⟩:=Za h;cases h;exact fun id aa=>by simp[Zl,Zn,Ze] at aa
theorem Zm3 {m:Nat→Bool}:∀ {xs ys:List AV} (i:Nat),(∀ x∈xs,InU U x)→args hp m i xs=some ys→∀ y∈ys,InU U y
 | [],ys,i,_,h=>by simp only[args] at h;cases h;simp
 | x :: xs,ys,i,hx,h=>by
  simp only[args] at h;obtain⟨y,h1,h⟩:=Za h;obtain⟨aa,h2,h⟩:=Za h;cases h;intro z hz;rcases Kf.1 hz with rfl | hz
  ·exact Zqw (hx x (by simp)) h1
  ·exact Zm3 (i+1) (fun y hy=>hx y (by simp[hy])) h2 z hz
theorem Uv (h:QA U hp hp'):∀ (n:Nat) (todo aa:List Nat),(∀ i∈todo,U i)→Qq hp n todo aa=Qq hp' n todo aa
 | 0,todo,aa,_=>by simp only[Qq]
 | n+1,[],aa,_=>by simp only[Qq]
 | n+1,id :: todo,aa,ht=>by
  simp only[Qq];rw[Uv h n todo aa fun i hi=>ht i (by simp[hi])];rw[← h.same id (ht id (by simp))];cases hl:lkp hp id with
  | none=>simp only[Vn];rw[Uv h n todo aa fun i hi=>ht i (by simp[hi])]
  | some o=>
   simp only[Vn];rw[Uv h n (todo++Ve o) (aa++[id]) fun i hi=>by
    rcases Kc.1 hi with hi | hi
    ·exact ht i (by simp[hi])
    ·exact h.closed id o (ht id (by simp)) hl i hi]
theorem ZcE (h:QA U hp hp'):∀ (n:Nat) (todo aa:List Nat),(∀ i∈todo,U i)→(∀ i∈aa,U i)→∀ i∈Qq hp n todo aa,U i
 | 0,todo,aa,_,ha=>by simp only[Qq];exact ha
 | n+1,[],aa,_,ha=>by simp only[Qq];exact ha
 | n+1,id :: todo,aa,ht,ha=>by
  simp only[Qq];split
  ·exact ZcE h n todo aa (fun i hi=>ht i (by simp[hi])) ha
  ·cases hl:lkp hp id with
   | none=>simp only[Vn];exact ZcE h n todo aa (fun i hi=>ht i (by simp[hi])) ha
   | some o=>
    simp only[Vn];refine ZcE h n (todo++Ve o) (aa++[id]) (fun i hi=>?_) fun i hi=>?_
    ·rcases Kc.1 hi with hi | hi
     ·exact ht i (by simp[hi])
     ·exact h.closed id o (ht id (by simp)) hl i hi
    ·rcases Kc.1 hi with hi | hi
     ·exact ha i hi
     ·simp at hi;subst hi;exact ht i (by simp)
theorem ZfC (h:QA U hp hp'):∀ {ids:List Nat},(∀ i∈ids,U i)→UN hp ids=UN hp' ids
 | [],_=>rfl
 | i :: ids,hi=>by simp only[UN,h.same i (hi i (by simp)),ZfC h (ids:=ids) fun j hj=>hi j (Kn _ hj)]
theorem ZfD (h:QA U hp hp') {base:Nat} {ids aa:List Nat} (hi:∀ i∈ids,U i) (hl:∀ i∈aa,U i) (keep:Bool) (r:AV) (out:List Zg):Wb keep hp base ids aa r out=Wb keep hp' base ids aa r out:=by
 unfold Wb;have:ZdH hp ids out keep=ZdH hp' ids out keep:=by
  cases keep
  ·exact List.filter_congr fun i hm=>by rw[h.same i (hi i hm)]
  ·rfl
 have h2:∀ {l:List Nat},(∀ i∈l,U i)→(l.any fun i=>W5 (lkp hp i))=l.any fun i=>W5 (lkp hp' i):=by
  intro l
  induction l with
  | nil=>intro _;rfl
  | cons i l ih=>intro hl;simp only[List.any_cons];rw[h.same i (hl i (by simp)),ih fun k hk=>hl k (by simp[hk])]
 rw[this,h2 hl]
theorem Zo2 (x:AV):∀ i∈Us x,i∈Ze x:=by
 intro i hi;cases x<;>simp only[Us,Ze] at hi ⊢ <;> first | exact hi | (simp at hi)
theorem ZnL (x:AV):∀ i∈Js x,i∈Zl x:=by
 intro i hi;cases x with
 | agg cs=>
  obtain⟨c,hc,hi⟩:=Kl.1 hi;exact Kl.2 ⟨c,hc,Zo2 c i hi⟩
 | own id=>exact hi
 | ownv id a b=>exact hi
 | _=>simp[Js,Us] at hi
theorem Zh7:∀ {xs ys:List AV},(∀ x∈xs,InU U x)→∀ i∈Xi xs ys,U i
 | [],ys,_,i,hi=>by cases ys<;>simp[Xi] at hi
 | x :: xs,[],_,i,hi=>by simp[Xi] at hi
 | x :: xs,y :: ys,hx,i,hi=>by
  have ih:=Zh7 (ys:=ys) fun z hz=>hx z (Kn _ hz);cases y<;>simp only[Xi] at hi<;>first | exact ih i hi | skip
  rcases Kc.1 hi with hi | hi
  ·exact hx x (by simp) i (ZnL x i hi)
  ·exact ih i hi
theorem ZbD (h:QA U hp hp') (rs:List Nat):∀ {ids:List Nat},(∀ i∈ids,U i)→WF hp rs ids=WF hp' rs ids
 | [],_=>rfl
 | i :: ids,hi=>by
  have ih:=ZbD h rs (ids:=ids) fun k hk=>hi k (by simp[hk]);simp only[WF,Li] at ih ⊢;rw[ih,h.1 i (hi i (by simp))]
theorem Zks (h:QA U hp hp') (C:Orc) (m:Nat→Bool) (base f:Nat) {ab:List AV} (hx:∀ x∈ab,InU U x):Uy C m hp base f ab=Uy C m hp' base f ab:=by
 unfold Uy;rw[← ZfB h m 0 hx];cases ha:args hp m 0 ab with
 | none=>rfl
 | some as=>
  simp only[bnd];have ad:=Zm3 0 hx ha;have ht:∀ i∈as.flatMap Zl,U i:=fun i hi=>by
   obtain⟨y,hy,hi⟩:=Kl.1 hi;exact ad y hy i hi
  have hf:QT hp=QT hp':=rfl;rw[hf,← Uv h (QT hp') (as.flatMap Zl) [] ht];have aa:=ZcE h (QT hp') (as.flatMap Zl) [] ht (by simp);unfold JF;rw[ZfC h aa,ZbD h _ aa];congr 1
  congr 1
  funext q
  exact ZfD h aa (Zh7 hx) (m 99) q.1 q.2
theorem clo_in {f:Nat} {aa:List AV} (h:InU U (.clo f aa)):∀ x∈aa,x.atom=true→InU U x:=by
 intro x hx ha id ab;refine h id (Kl.2 ⟨x,hx,?_⟩);cases x<;>first | exact ab | (simp[AV.atom] at ha)
end
end Go.Abs
