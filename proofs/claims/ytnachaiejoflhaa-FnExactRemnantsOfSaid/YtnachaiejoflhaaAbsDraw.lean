/- Own text. -/
import Derived.Test.YtnachaiejoflhaaAbsSound2
set_option linter.unusedVariables false
set_option linter.unusedSimpArgs false
namespace Go.Abs
open Go
theorem JU {sl sl' : Sl}:∀ {xs:List Opd},(∀ x∈xs,evO sl x=evO sl' x)→evL sl xs=evL sl' xs
 | [],_=>rfl
 | x :: xs,h=>by simp only[evL,h x (by simp),JU (xs:=xs) fun y hy=>h y (Km _ hy)]
theorem Zji {sl sl' : Sl}:∀ {xs:List (Nat×Nat×Opd)},(∀ x∈xs.map (fun q=>q.2.2),evO sl x=evO sl' x)→evP sl xs=evP sl' xs
 | [],_=>rfl
 | (a,b,x) :: xs,h=>by simp only[evP,h x (by simp),Zji (xs:=xs) fun y hy=>h y (by simp only[Ky,Ke];exact .inr hy)]
theorem Zcj {sl sl' : Sl} {x:Option Opd} (h:∀ y∈ZnH x,evO sl y=evO sl' y):evM sl x=evM sl' x:=by
 cases x with
 | none=>rfl
 | some y=>simp only[evM,h y (by simp[ZnH])]
theorem QB (C:Orc) (M:Zh) {sl sl' : Sl} (hp:Hp) (base:Nat):∀ {c:COp},(∀ x∈Zt c,evO sl x=evO sl' x)→vop C M sl hp base c=vop C M sl' hp base c:=by
 intro c h;cases c<;>simp only[Zt] at h<;>simp only[vop]
 case move x=>rw[h x (by simp)]
 case assign s x=>rw[h x (by simp)]
 case pick c a b=>rw[h c (by simp),h a (by simp),h b (by simp)]
 case box x=>rw[h x (by simp)]
 case build zs ps=>rw[Zji h]
 case buildSl s xs=>rw[JU h]
 case load g s a=>rw[h a (by simp)]
 case store slc s a x=>rw[h a (by simp),h x (by simp)]
 case nilCheck x=>rw[h x (by simp)]
 case bin op eq x y=>rw[h x (by simp),h y (by simp)]
 case un op x=>rw[h x (by simp)]
 case eqA neg n x y=>rw[h x (by simp),h y (by simp)]
 case convI k x=>rw[h x (by simp)]
 case convS x=>rw[h x (by simp)]
 case fn f cs=>rw[JU h]
 case make s b z l c=>rw[h l (by simp),h c (by simp)]
 case slice s x lo hi=>rw[h x (by simp),Zcj fun y hy=>h y (by simp[hy]),Zcj (x:=hi) fun y hy=>h y (by simp[hy])]
 case sliceS x lo hi=>rw[h x (by simp),Zcj fun y hy=>h y (by simp[hy]),Zcj (x:=hi) fun y hy=>h y (by simp[hy])]
 case slice0 x hi mx=>rw[h x (by simp),h hi (by simp),h mx (by simp)]
 case shift off x=>rw[h x (by simp)]
 case part g s off x=>rw[h x (by simp)]
 case iaS s x i=>rw[h x (by simp),h i (by simp)]
 case iaA len s x i=>rw[h x (by simp),h i (by simp)]
 case ixS x i=>rw[h x (by simp),h i (by simp)]
 case ixA g s len x i=>rw[h x (by simp),h i (by simp)]
 case nth i x=>rw[h x (by simp)]
 case len x=>rw[h x (by simp)]
 case lenS x=>rw[h x (by simp)]
 case append s b str flat x y=>rw[h x (by simp),h y (by simp)]
 case min x y=>rw[h x (by simp),h y (by simp)]
 case max x y=>rw[h x (by simp),h y (by simp)]
 case slice3 s x lo hi mx=>rw[h x (by simp),h lo (by simp),h hi (by simp),h mx (by simp)]
 case clear s z x=>rw[h x (by simp)]
 case buildT s n xs=>rw[JU h]
 case appT s b f x y=>rw[h x (by simp),h y (by simp)]
 case asgT s n x=>rw[h x (by simp)]
 case makeT s b n z l c=>rw[h l (by simp),h c (by simp)]
 case call f as=>rw[h f (by simp),JU (xs:=as) fun y hy=>h y (Km _ hy)]
section
variable {U:Nat→Prop} {hp hp' : Hp}
structure QE (U:Nat→Prop) (hp hp' : Hp):Prop where
 same:∀ id,U id→lkp hp id=lkp hp' id
 closed:∀ id o,U id→lkp hp id=some o→∀ i∈VG o,U i
def InU (U:Nat→Prop) (x:AV):Prop:=∀ id∈Zn x,U id
theorem Zlu (h:QE U hp hp') {x:AV} (hx:InU U x) (g:Bool) (s:Nat):Y4 hp g s x=Y4 hp' g s x:=by
 cases x<;>simp only[Y4]
 case ptr id off=>rw[h.same id (hx id (by simp[Zn,Zq,Zf]))]
 case prow id sz i off=>rw[h.same id (hx id (by simp[Zn,Zq,Zf]))]
theorem ZeF (h:QE U hp hp') {x:AV} (hx:InU U x) (sz n:Nat):Qg hp sz n x=Qg hp' sz n x:=by
 cases x<;>simp only[Qg]
 case d x=>cases x<;>rfl
 case own id=>rw[h.same id (hx id (by simp[Zn,Zq,Zf]))]
 case ownv id off m=>rw[h.same id (hx id (by simp[Zn,Zq,Zf]))]
theorem Zkf (h:QE U hp hp') {x:AV} (hx:InU U x) (s:Nat) (lo hi:Option AV):X8 hp s lo hi x=X8 hp' s lo hi x:=by
 cases x<;>simp only[X8]
 case d x=>cases x<;>rfl
 case own id=>rw[h.same id (hx id (by simp[Zn,Zq,Zf]))]
 case ownv id off m=>rw[h.same id (hx id (by simp[Zn,Zq,Zf]))]
theorem Zc8 (h:QE U hp hp') {x:AV} (hx:InU U x):Jx hp x=Jx hp' x:=by
 cases x<;>simp only[Jx]
 case d x=>cases x<;>rfl
 case own id=>rw[h.same id (hx id (by simp[Zn,Zq,Zf]))]
theorem Zkg (h:QE U hp hp') {x:AV} (hx:InU U x) (s:Nat) (z:D):Zar hp s z x=Zar hp' s z x:=by
 cases x<;>simp only[Zar]
 case ownv id off m=>rw[h.same id (hx id (by simp[Zn,Zq,Zf]))]
theorem Zlv (h:QE U hp hp') {x:AV} (hx:InU U x) (flat:Bool):ZbC hp flat x=ZbC hp' flat x:=by
 cases x<;>simp only[ZbC]
 case d x=>cases x<;>rfl
 case own id=>rw[h.same id (hx id (by simp[Zn,Zq,Zf]))]
 case ownv id off m=>rw[h.same id (hx id (by simp[Zn,Zq,Zf]))]
theorem Zlw (h:QE U hp hp') {x:AV} (hx:InU U x) (sz b base:Nat) (aa:List Nat) (ys:List D) (ex:Bool):ZcT hp sz b base aa ys ex x=ZcT hp' sz b base aa ys ex x:=by
 cases x<;>simp only[ZcT]
 case own id=>rw[h.same id (hx id (by simp[Zn,Zq,Zf]))]
 case ownv id off m=>rw[h.same id (hx id (by simp[Zn,Zq,Zf]))]
theorem Zin (h:QE U hp hp') {x:AV} (hx:InU U x):Zaw hp x=Zaw hp' x:=by
 cases x<;>simp only[Zaw]
 case own id=>rw[h.same id (hx id (by simp[Zn,Zq,Zf]))]
theorem Zio (h:QE U hp hp') {x:AV} (hx:InU U x) (s b base id n:Nat) (ys:List D):Jj hp s b base id n ys x=Jj hp' s b base id n ys x:=by
 cases x<;>simp only[Jj]
 case own k=>rw[h.same k (hx k (by simp[Zn,Zq,Zf]))]
theorem ZcI (h:QE U hp hp') {x y:AV} (hx:InU U x) (hy:InU U y) (s b:Nat) (str flat:Bool) (base:Nat):VO hp s b str flat base x y=VO hp' s b str flat base x y:=by
 unfold VO;rw[Zlv h hy];congr 1
 funext q
 rw[Zlw h hx]
theorem ZdP (h:QE U hp hp') {x:AV} (hx:InU U x):XN hp x=XN hp' x:=by
 cases x<;>simp only[XN]
 case own id=>rw[h.same id (hx id (by simp[Zn,Zq,Zf]))]
theorem Zkh (h:QE U hp hp') (ids:List Nat):QE U (meltIn hp ids) (meltIn hp' ids):=by
 refine⟨fun id aa=>by rw[Vq,Vq,h.same id aa],fun id o aa hl=>?_⟩;rw[Vq] at hl;cases hl0:lkp hp id with
 | none=>rw[hl0] at hl;cases hl
 | some o0=>
  rw[hl0] at hl;simp only[KM,Option.some.injEq] at hl;subst hl;have:=h.closed id o0 aa hl0;split
  ·cases o0 with
   | tree s n xs l=>cases l<;>exact this
   | _=>exact this
  ·exact this
theorem Zip (h:QE U hp hp') {x y:AV} (hx:InU U x) (hy:InU U y) (s b:Nat) (str flat:Bool) (base:Nat) (ms:List Nat):YL hp s b str flat base x y ms=YL hp' s b str flat base x y ms:=by
 cases ms with
 | nil=>exact ZcI h hx hy s b str flat base
 | cons i r=>simp only[YL];rw[ZcI (Zkh h (i :: r)) hx hy]
theorem Zm9 (h:QE U hp hp') {x y:AV} (hx:InU U x) (hy:InU U y) (s b base:Nat):appT hp s b base x y=appT hp' s b base x y:=by
 unfold appT;rw[Zin h hy];congr 2
 funext q
 rw[Zio h hx]
theorem Zfu (h:QE U hp hp') {x:AV} (hx:∀ id∈Zf x,U id):W9 hp x=W9 hp' x:=by
 cases x<;>simp only[W9]
 case own id=>rw[h.same id (hx id (by simp[Zf]))]
theorem Zbp (h:QE U hp hp'):∀ {xs:List AV},(∀ id∈xs.flatMap Zf,U id)→Yb hp xs=Yb hp' xs
 | [],_=>rfl
 | x :: xs,hx=>by
  simp only[Yb];rw[Zfu h fun id aa=>hx id (by simp only[Kv,Kc];exact .inl aa),Zbp h (xs:=xs) fun id aa=>hx id (by simp only[Kv,Kc];exact .inr aa)]
theorem Zlx (h:QE U hp hp') {n:Nat} {x:AV} (hx:∀ id∈Zf x,U id):ZbB hp n x=ZbB hp' n x:=by
 cases x<;>simp only[ZbB]
 case own id=>rw[h.same id (hx id (by simp[Zf]))]
theorem Zbq (h:QE U hp hp') {n:Nat}:∀ {xs:List AV},(∀ id∈xs.flatMap Zf,U id)→Ys hp n xs=Ys hp' n xs
 | [],_=>rfl
 | x :: xs,hx=>by
  simp only[Ys];rw[Zlx h fun id aa=>hx id (by simp only[Kv,Kc];exact .inl aa),Zbq h (xs:=xs) fun id aa=>hx id (by simp only[Kv,Kc];exact .inr aa)]
theorem ZcJ (h:QE U hp hp') {n s:Nat}:∀ {xs:List AV},(∀ x∈xs,InU U x)→Vi hp n s xs=Vi hp' n s xs
 | [],_=>rfl
 | x :: xs,hx=>by
  cases x<;>simp only[Vi]
  rename_i cs;rw[Zbq h (hx (.agg cs) (by simp)),ZcJ h (xs:=xs) fun x hm=>hx x (Km _ hm)]
theorem Zki (h:QE U hp hp') {base s n:Nat} {xs:List AV} (hx:∀ x∈xs,InU U x):buildT hp base s n xs=buildT hp' base s n xs:=by
 unfold buildT;rw[ZcJ h hx]
theorem Zkj (h:QE U hp hp') {x:AV} (hx:InU U x) (slc:List (Option Nat)) (s base:Nat) (vs:List AV) (hv:∀ id∈vs.flatMap Zf,U id):W3 hp slc s base vs x=W3 hp' slc s base vs x:=by
 cases x<;>simp only[W3]
 case ptr id off=>rw[h.same id (hx id (by simp[Zn,Zq,Zf]))]
 case prow id sz i off=>
  rw[h.same id (hx id (by simp[Zn,Zq,Zf]))];unfold Uz;rw[Zbp h hv];have ht:∀ n,Ys hp n vs=Ys hp' n vs:=fun n=>Zbq h hv;simp only[ht]
theorem ZgJ {x:AV} (hx:InU U x):∀ id∈x.cells.flatMap Zf,U id:=by
 intro id aa;refine hx id ?_;cases x<;>simp only[AV.cells] at aa<;>first
  | (simp[Zf] at aa;done)
  | (obtain⟨c,hc,ab⟩:=Kk.1 aa;obtain⟨y,_,rfl⟩:=KX.1 hc;simp[Zf] at ab;done)
  | (simpa [Zn,Zq,Zf] using aa)
theorem Zna (h:QE U hp hp') {x:AV} (hx:InU U x):give hp x=give hp' x:=by
 cases x with
 | agg cs=>simp only[give];rw[Zbp h hx]
 | own id=>exact Zfu h (x:=.own id) hx
 | _=>rfl
theorem ZcK (h:QE U hp hp'):∀ {xs:List AV},(∀ x∈xs,InU U x)→YJ hp xs=YJ hp' xs
 | [],_=>rfl
 | x :: xs,hx=>by
  simp only[YJ];rw[Zna h (hx x (by simp)),ZcK h (xs:=xs) fun y hy=>hx y (Km _ hy)]
theorem Zal (h:QE U hp hp') {x:AV} (hx:∀ id∈Zf x,U id):ZcF hp x=ZcF hp' x:=by
 cases x<;>simp only[ZcF]
 case own id=>rw[h.same id (hx id (by simp[Zf]))]
 case ownv id off n=>rw[h.same id (hx id (by simp[Zf]))]
theorem ZgK (h:QE U hp hp'):∀ {xs:List AV},(∀ id∈xs.flatMap Zf,U id)→Qd (ZcF hp) xs=Qd (ZcF hp') xs
 | [],_=>rfl
 | x :: xs,hx=>by
  simp only[Qd];rw[Zal h fun id aa=>hx id (by simp only[Kv,Kc];exact .inl aa),ZgK h (xs:=xs) fun id aa=>hx id (by simp only[Kv,Kc];exact .inr aa)]
theorem Zjj (h:QE U hp hp') {x:AV} (hx:InU U x):toD hp x=toD hp' x:=by
 cases x with
 | agg cs=>simp only[toD];rw[ZgK h hx]
 | own id=>exact Zal h (x:=.own id) hx
 | ownv id off n=>exact Zal h (x:=.ownv id off n) hx
 | _=>rfl
theorem Znb (h:QE U hp hp') (m:Bool) {x:AV} (hx:InU U x):Ja hp m x=Ja hp' m x:=by
 cases x with
 | own id=>
  simp only[Ja];cases m
  ·simp only[Zas];rw[Zal h (x:=.own id) hx]
  ·rfl
 | agg cs=>
  simp only[Ja];cases m
  ·simp only[Zat];rw[Zjj h hx]
  ·rfl
 | ownv id off n=>simp only[Ja];rw[Zjj h hx]
 | _=>rfl
theorem ZgL (h:QE U hp hp') (m:Nat→Bool):∀ {xs:List AV} (i:Nat),(∀ x∈xs,InU U x)→args hp m i xs=args hp' m i xs
 | [],i,_=>rfl
 | x :: xs,i,hx=>by
  simp only[args];rw[Znb h (m i) (hx x (by simp)),ZgL h m (xs:=xs) (i+1) fun y hy=>hx y (Km _ hy)]
theorem ZrT {m:Bool} {x y:AV} (hx:InU U x) (h:Ja hp m x=some y):InU U y:=by
 unfold Ja at h;split at h
 ·cases h;exact hx
 ·cases h;exact hx
 ·cases h;exact hx
 ·cases h;exact hx
 ·cases h;exact hx
 ·rename_i id;cases m
  ·simp only[Zas,asD] at h;obtain⟨d,_,h⟩:=Za h;cases h;exact fun id aa=>by simp[Zn,Zq,Zf] at aa
  ·simp only[Zas] at h;cases h;exact hx
 ·cases m
  ·simp only[ZbD] at h;cases h;exact fun id aa=>by simp[Zn,Zq,Zf] at aa
  ·simp only[ZbD] at h;cases h;exact hx
 ·cases h;exact hx
 ·cases m
  ·simp only[Zat,asD] at h;obtain⟨d,_,h⟩:=Za h;cases h;exact fun id aa=>by simp[Zn,Zq,Zf] at aa
  ·simp only[Zat] at h;split at h
   ·cases h
   ·cases h;exact hx
 ·obtain⟨d,_,h⟩:=Za h;cases h;exact fun id aa=>by simp[Zn,Zq,Zf] at aa
theorem Zok {m:Nat→Bool}:∀ {xs ys:List AV} (i:Nat),(∀ x∈xs,InU U x)→args hp m i xs=some ys→∀ y∈ys,InU U y
 | [],ys,i,_,h=>by simp only[args] at h;cases h;simp
 | x :: xs,ys,i,hx,h=>by
  simp only[args] at h;obtain⟨y,h1,h⟩:=Za h;obtain⟨aa,h2,h⟩:=Za h;cases h;intro z hz;rcases Ke.1 hz with rfl | hz
  ·exact ZrT (hx x (by simp)) h1
  ·exact Zok (i+1) (fun y hy=>hx y (by simp[hy])) h2 z hz
theorem Je (h:QE U hp hp'):∀ (n:Nat) (todo aa:List Nat),(∀ i∈todo,U i)→Qz hp n todo aa=Qz hp' n todo aa
 | 0,todo,aa,_=>by simp only[Qz]
 | n+1,[],aa,_=>by simp only[Qz]
 | n+1,id :: todo,aa,ht=>by
  simp only[Qz];rw[Je h n todo aa fun i hi=>ht i (by simp[hi])];rw[← h.same id (ht id (by simp))];cases hl:lkp hp id with
  | none=>simp only[VQ];rw[Je h n todo aa fun i hi=>ht i (by simp[hi])]
  | some o=>
   simp only[VQ];rw[Je h n (todo++VG o) (aa++[id]) fun i hi=>by
    rcases Kc.1 hi with hi | hi
    ·exact ht i (by simp[hi])
    ·exact h.closed id o (ht id (by simp)) hl i hi]
theorem ZdQ (h:QE U hp hp'):∀ (n:Nat) (todo aa:List Nat),(∀ i∈todo,U i)→(∀ i∈aa,U i)→∀ i∈Qz hp n todo aa,U i
 | 0,todo,aa,_,ha=>by simp only[Qz];exact ha
 | n+1,[],aa,_,ha=>by simp only[Qz];exact ha
 | n+1,id :: todo,aa,ht,ha=>by
  simp only[Qz];split
  ·exact ZdQ h n todo aa (fun i hi=>ht i (by simp[hi])) ha
  ·cases hl:lkp hp id with
   | none=>simp only[VQ];exact ZdQ h n todo aa (fun i hi=>ht i (by simp[hi])) ha
   | some o=>
    simp only[VQ];refine ZdQ h n (todo++VG o) (aa++[id]) (fun i hi=>?_) fun i hi=>?_
    ·rcases Kc.1 hi with hi | hi
     ·exact ht i (by simp[hi])
     ·exact h.closed id o (ht id (by simp)) hl i hi
    ·rcases Kc.1 hi with hi | hi
     ·exact ha i hi
     ·simp at hi;subst hi;exact ht i (by simp)
theorem ZgM (h:QE U hp hp'):∀ {ids:List Nat},(∀ i∈ids,U i)→JA hp ids=JA hp' ids
 | [],_=>rfl
 | i :: ids,hi=>by simp only[JA,h.same i (hi i (by simp)),ZgM h (ids:=ids) fun j hj=>hi j (Km _ hj)]
theorem ZgN (h:QE U hp hp') {base:Nat} {ids aa:List Nat} (hi:∀ i∈ids,U i) (hl:∀ i∈aa,U i) (keep:Bool) (r:AV) (out:List Zj):WP keep hp base ids aa r out=WP keep hp' base ids aa r out:=by
 unfold WP;have:ZeO hp ids out keep=ZeO hp' ids out keep:=by
  cases keep
  ·exact List.filter_congr fun i hm=>by rw[h.same i (hi i hm)]
  ·rfl
 have h2:∀ {l:List Nat},(∀ i∈l,U i)→(l.any fun i=>UF (lkp hp i))=l.any fun i=>UF (lkp hp' i):=by
  intro l
  induction l with
  | nil=>intro _;rfl
  | cons i l ih=>intro hl;simp only[List.any_cons];rw[h.same i (hl i (by simp)),ih fun k hk=>hl k (by simp[hk])]
 rw[this,h2 hl]
theorem Zqe (x:AV):∀ i∈Jb x,i∈Zf x:=by
 intro i hi;cases x<;>simp only[Jb,Zf] at hi ⊢ <;> first | exact hi | (simp at hi)
theorem Zo2 (x:AV):∀ i∈Zah x,i∈Zn x:=by
 intro i hi;cases x with
 | agg cs=>
  obtain⟨c,hc,hi⟩:=Kk.1 hi;exact Kk.2 ⟨c,hc,Zqe c i hi⟩
 | own id=>exact hi
 | ownv id a b=>exact hi
 | _=>simp[Zah,Jb] at hi
theorem Zjk:∀ {xs ys:List AV},(∀ x∈xs,InU U x)→∀ i∈Xo xs ys,U i
 | [],ys,_,i,hi=>by cases ys<;>simp[Xo] at hi
 | x :: xs,[],_,i,hi=>by simp[Xo] at hi
 | x :: xs,y :: ys,hx,i,hi=>by
  have ih:=Zjk (ys:=ys) fun z hz=>hx z (Km _ hz);cases y<;>simp only[Xo] at hi<;>first | exact ih i hi | skip
  rcases Kc.1 hi with hi | hi
  ·exact hx x (by simp) i (Zo2 x i hi)
  ·exact ih i hi
theorem ZcL (h:QE U hp hp') (rs:List Nat):∀ {ids:List Nat},(∀ i∈ids,U i)→Ug hp rs ids=Ug hp' rs ids
 | [],_=>rfl
 | i :: ids,hi=>by
  have ih:=ZcL h rs (ids:=ids) fun k hk=>hi k (by simp[hk]);simp only[Ug,K7] at ih ⊢;rw[ih,h.1 i (hi i (by simp))]
theorem Zly (h:QE U hp hp') (C:Orc) (m:Nat→Bool) (base f:Nat) {ab:List AV} (hx:∀ x∈ab,InU U x):Ji C m hp base f ab=Ji C m hp' base f ab:=by
 unfold Ji;rw[← ZgL h m 0 hx];cases ha:args hp m 0 ab with
 | none=>rfl
 | some as=>
  simp only[bnd];have ad:=Zok 0 hx ha;have ht:∀ i∈as.flatMap Zn,U i:=fun i hi=>by
   obtain⟨y,hy,hi⟩:=Kk.1 hi;exact ad y hy i hi
  have hf:QZ hp=QZ hp':=rfl;rw[hf,← Je h (QZ hp') (as.flatMap Zn) [] ht];have aa:=ZdQ h (QZ hp') (as.flatMap Zn) [] ht (by simp);unfold Zau;rw[ZgM h aa,ZcL h _ aa];congr 1
  congr 1
  funext q
  exact ZgN h aa (Zjk hx) (m 99) q.1 q.2
theorem clo_in {f:Nat} {aa:List AV} (h:InU U (.clo f aa)):∀ x∈aa,x.atom=true→InU U x:=by
 intro x hx ha id ab;refine h id (Kk.2 ⟨x,hx,?_⟩);cases x<;>first | exact ab | (simp[AV.atom] at ha)
end
end Go.Abs
