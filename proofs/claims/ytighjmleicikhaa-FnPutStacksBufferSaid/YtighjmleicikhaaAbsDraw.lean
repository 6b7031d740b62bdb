/- Own text. -/
import Derived.Test.YtighjmleicikhaaAbsSound2
set_option linter.unusedVariables false
set_option linter.unusedSimpArgs false
namespace Go.Abs
open Go
theorem Um {sl sl' : Sl}:∀ {xs:List Opd},(∀ x∈xs,evO sl x=evO sl' x)→evL sl xs=evL sl' xs
 | [],_=>rfl
 | x :: xs,h=>by simp only[evL,h x (by simp),Um (xs:=xs) fun y hy=>h y (Km _ hy)]
theorem Zf1 {sl sl' : Sl}:∀ {xs:List (Nat×Nat×Opd)},(∀ x∈xs.map (fun q=>q.2.2),evO sl x=evO sl' x)→evP sl xs=evP sl' xs
 | [],_=>rfl
 | (a,b,x) :: xs,h=>by simp only[evP,h x (by simp),Zf1 (xs:=xs) fun y hy=>h y (by simp only[Ky,Ke];exact .inr hy)]
theorem J6 {sl sl' : Sl} {x:Option Opd} (h:∀ y∈ZjL x,evO sl y=evO sl' y):evM sl x=evM sl' x:=by
 cases x with
 | none=>rfl
 | some y=>simp only[evM,h y (by simp[ZjL])]
theorem Qk (C:Orc) (M:Zf) {sl sl' : Sl} (hp:Hp) (base:Nat):∀ {c:COp},(∀ x∈Zo c,evO sl x=evO sl' x)→vop C M sl hp base c=vop C M sl' hp base c:=by
 intro c h;cases c<;>simp only[Zo] at h<;>simp only[vop]
 case move x=>rw[h x (by simp)]
 case assign s x=>rw[h x (by simp)]
 case pick c a b=>rw[h c (by simp),h a (by simp),h b (by simp)]
 case box x=>rw[h x (by simp)]
 case build zs ps=>rw[Zf1 h]
 case buildSl s xs=>rw[Um h]
 case load g s a=>rw[h a (by simp)]
 case store slc s a x=>rw[h a (by simp),h x (by simp)]
 case nilCheck x=>rw[h x (by simp)]
 case bin op eq x y=>rw[h x (by simp),h y (by simp)]
 case un op x=>rw[h x (by simp)]
 case eqA neg n x y=>rw[h x (by simp),h y (by simp)]
 case convI k x=>rw[h x (by simp)]
 case convS x=>rw[h x (by simp)]
 case fn f cs=>rw[Um h]
 case make s b z l c=>rw[h l (by simp),h c (by simp)]
 case slice s x lo hi=>rw[h x (by simp),J6 fun y hy=>h y (by simp[hy]),J6 (x:=hi) fun y hy=>h y (by simp[hy])]
 case sliceS x lo hi=>rw[h x (by simp),J6 fun y hy=>h y (by simp[hy]),J6 (x:=hi) fun y hy=>h y (by simp[hy])]
 case slice0 x hi mx=>rw[h x (by simp),h hi (by simp),h mx (by simp)]
 case shift off x=>rw[h x (by simp)]
 case part g s off x=>rw[h x (by simp)]
 case iaS s x i=>rw[h x (by simp),h i (by simp)]
 case iaA len s x i=>rw[h x (by simp),h i (by simp)]
 case ixS x i=>rw[h x (by simp),h i (by simp)]
 case ixA g s len x i=>rw[h x (by simp),h i (by simp)]
 case nth i x=>rw[h x (by simp)]
 case len x=>rw[h x (by simp)]
 case lenS x=>rw[h x (by simp)]
 case append s b str flat x y=>rw[h x (by simp),h y (by simp)]
 case min x y=>rw[h x (by simp),h y (by simp)]
 case max x y=>rw[h x (by simp),h y (by simp)]
 case slice3 s x lo hi mx=>rw[h x (by simp),h lo (by simp),h hi (by simp),h mx (by simp)]
 case clear s z x=>rw[h x (by simp)]
 case buildT s n xs=>rw[Um h]
 case appT s b f x y=>rw[h x (by simp),h y (by simp)]
 case asgT s n x=>rw[h x (by simp)]
 case makeT s b n z l c=>rw[h l (by simp),h c (by simp)]
 case call f as=>rw[h f (by simp),Um (xs:=as) fun y hy=>h y (Km _ hy)]
section
variable {U:Nat→Prop} {hp hp' : Hp}
structure Qm (U:Nat→Prop) (hp hp' : Hp):Prop where
 same:∀ id,U id→lkp hp id=lkp hp' id
 closed:∀ id o,U id→lkp hp id=some o→∀ i∈YQ o,U i
def InU (U:Nat→Prop) (x:AV):Prop:=∀ id∈Zj x,U id
theorem Zh3 (h:Qm U hp hp') {x:AV} (hx:InU U x) (g:Bool) (s:Nat):Yo hp g s x=Yo hp' g s x:=by
 cases x<;>simp only[Yo]
 case ptr id off=>rw[h.same id (hx id (by simp[Zj,Zm,Ze]))]
 case prow id sz i off=>rw[h.same id (hx id (by simp[Zj,Zm,Ze]))]
theorem Zce (h:Qm U hp hp') {x:AV} (hx:InU U x) (sz n:Nat):Z0 hp sz n x=Z0 hp' sz n x:=by
 cases x<;>simp only[Z0]
 case d x=>cases x<;>rfl
 case own id=>rw[h.same id (hx id (by simp[Zj,Zm,Ze]))]
 case ownv id off m=>rw[h.same id (hx id (by simp[Zj,Zm,Ze]))]
theorem ZgX (h:Qm U hp hp') {x:AV} (hx:InU U x) (s:Nat) (lo hi:Option AV):XB hp s lo hi x=XB hp' s lo hi x:=by
 cases x<;>simp only[XB]
 case d x=>cases x<;>rfl
 case own id=>rw[h.same id (hx id (by simp[Zj,Zm,Ze]))]
 case ownv id off m=>rw[h.same id (hx id (by simp[Zj,Zm,Ze]))]
theorem ZaU (h:Qm U hp hp') {x:AV} (hx:InU U x):W2 hp x=W2 hp' x:=by
 cases x<;>simp only[W2]
 case d x=>cases x<;>rfl
 case own id=>rw[h.same id (hx id (by simp[Zj,Zm,Ze]))]
theorem ZgY (h:Qm U hp hp') {x:AV} (hx:InU U x) (s:Nat) (z:D):UL hp s z x=UL hp' s z x:=by
 cases x<;>simp only[UL]
 case ownv id off m=>rw[h.same id (hx id (by simp[Zj,Zm,Ze]))]
theorem Zh4 (h:Qm U hp hp') {x:AV} (hx:InU U x) (flat:Bool):Jz hp flat x=Jz hp' flat x:=by
 cases x<;>simp only[Jz]
 case d x=>cases x<;>rfl
 case own id=>rw[h.same id (hx id (by simp[Zj,Zm,Ze]))]
 case ownv id off m=>rw[h.same id (hx id (by simp[Zj,Zm,Ze]))]
theorem Zh5 (h:Qm U hp hp') {x:AV} (hx:InU U x) (sz b base:Nat) (aa:List Nat) (ys:List D) (ex:Bool):ZaK hp sz b base aa ys ex x=ZaK hp' sz b base aa ys ex x:=by
 cases x<;>simp only[ZaK]
 case own id=>rw[h.same id (hx id (by simp[Zj,Zm,Ze]))]
 case ownv id off m=>rw[h.same id (hx id (by simp[Zj,Zm,Ze]))]
theorem ZfF (h:Qm U hp hp') {x:AV} (hx:InU U x):WU hp x=WU hp' x:=by
 cases x<;>simp only[WU]
 case own id=>rw[h.same id (hx id (by simp[Zj,Zm,Ze]))]
theorem ZfG (h:Qm U hp hp') {x:AV} (hx:InU U x) (s b base id n:Nat) (ys:List D):Wa hp s b base id n ys x=Wa hp' s b base id n ys x:=by
 cases x<;>simp only[Wa]
 case own k=>rw[h.same k (hx k (by simp[Zj,Zm,Ze]))]
theorem Zay (h:Qm U hp hp') {x y:AV} (hx:InU U x) (hy:InU U y) (s b:Nat) (str flat:Bool) (base:Nat):YY hp s b str flat base x y=YY hp' s b str flat base x y:=by
 unfold YY;rw[Zh4 h hy];congr 1
 funext q
 rw[Zh5 h hx]
theorem Zbq (h:Qm U hp hp') {x:AV} (hx:InU U x):QI hp x=QI hp' x:=by
 cases x<;>simp only[QI]
 case own id=>rw[h.same id (hx id (by simp[Zj,Zm,Ze]))]
theorem ZgZ (h:Qm U hp hp') (ids:List Nat):Qm U (meltIn hp ids) (meltIn hp' ids):=by
 refine⟨fun id aa=>by rw[YD,YD,h.same id aa],fun id o aa hl=>?_⟩;rw[YD] at hl;cases hl0:lkp hp id with
 | none=>rw[hl0] at hl;cases hl
 | some o0=>
  rw[hl0] at hl;simp only[KK,Option.some.injEq] at hl;subst hl;have:=h.closed id o0 aa hl0;split
  ·cases o0 with
   | tree s n xs l=>cases l<;>exact this
   | _=>exact this
  ·exact this
theorem Zaz (h:Qm U hp hp') {x y:AV} (hx:InU U x) (hy:InU U y) (s b:Nat) (str flat:Bool) (base:Nat) (ms:List Nat):Xn hp s b str flat base x y ms=Xn hp' s b str flat base x y ms:=by
 cases ms with
 | nil=>exact Zay h hx hy s b str flat base
 | cons i r=>simp only[Xn];rw[Zay (ZgZ h (i :: r)) hx hy]
theorem Zd0 (h:Qm U hp hp') {x y:AV} (hx:InU U x) (hy:InU U y) (s b base:Nat):appT hp s b base x y=appT hp' s b base x y:=by
 unfold appT;rw[ZfF h hy];congr 2
 funext q
 rw[ZfG h hx]
theorem ZcY (h:Qm U hp hp') {x:AV} (hx:∀ id∈Ze x,U id):V1 hp x=V1 hp' x:=by
 cases x<;>simp only[V1]
 case own id=>rw[h.same id (hx id (by simp[Ze]))]
theorem Jo (h:Qm U hp hp'):∀ {xs:List AV},(∀ id∈xs.flatMap Ze,U id)→XE hp xs=XE hp' xs
 | [],_=>rfl
 | x :: xs,hx=>by
  simp only[XE];rw[ZcY h fun id aa=>hx id (by simp only[Kz,Kd];exact .inl aa),Jo h (xs:=xs) fun id aa=>hx id (by simp only[Kz,Kd];exact .inr aa)]
theorem Zh6 (h:Qm U hp hp') {n:Nat} {x:AV} (hx:∀ id∈Ze x,U id):Jy hp n x=Jy hp' n x:=by
 cases x<;>simp only[Jy]
 case own id=>rw[h.same id (hx id (by simp[Ze]))]
theorem Jp (h:Qm U hp hp') {n:Nat}:∀ {xs:List AV},(∀ id∈xs.flatMap Ze,U id)→XY hp n xs=XY hp' n xs
 | [],_=>rfl
 | x :: xs,hx=>by
  simp only[XY];rw[Zh6 h fun id aa=>hx id (by simp only[Kz,Kd];exact .inl aa),Jp h (xs:=xs) fun id aa=>hx id (by simp only[Kz,Kd];exact .inr aa)]
theorem ZaA (h:Qm U hp hp') {n s:Nat}:∀ {xs:List AV},(∀ x∈xs,InU U x)→Yx hp n s xs=Yx hp' n s xs
 | [],_=>rfl
 | x :: xs,hx=>by
  cases x<;>simp only[Yx]
  rename_i cs;rw[Jp h (hx (.agg cs) (by simp)),ZaA h (xs:=xs) fun x hm=>hx x (Km _ hm)]
theorem Zg0 (h:Qm U hp hp') {base s n:Nat} {xs:List AV} (hx:∀ x∈xs,InU U x):buildT hp base s n xs=buildT hp' base s n xs:=by
 unfold buildT;rw[ZaA h hx]
theorem Zg1 (h:Qm U hp hp') {x:AV} (hx:InU U x) (slc:List (Option Nat)) (s base:Nat) (vs:List AV) (hv:∀ id∈vs.flatMap Ze,U id):VT hp slc s base vs x=VT hp' slc s base vs x:=by
 cases x<;>simp only[VT]
 case ptr id off=>rw[h.same id (hx id (by simp[Zj,Zm,Ze]))]
 case prow id sz i off=>
  rw[h.same id (hx id (by simp[Zj,Zm,Ze]))];unfold Wn;rw[Jo h hv];have ht:∀ n,XY hp n vs=XY hp' n vs:=fun n=>Jp h hv;simp only[ht]
theorem Zd1 {x:AV} (hx:InU U x):∀ id∈x.cells.flatMap Ze,U id:=by
 intro id aa;refine hx id ?_;cases x<;>simp only[AV.cells] at aa<;>first
  | (simp[Ze] at aa;done)
  | (obtain⟨c,hc,ab⟩:=Kk.1 aa;obtain⟨y,_,rfl⟩:=K9.1 hc;simp[Ze] at ab;done)
  | (simpa [Zj,Zm,Ze] using aa)
theorem Zjf (h:Qm U hp hp') {x:AV} (hx:InU U x):give hp x=give hp' x:=by
 cases x with
 | agg cs=>simp only[give];rw[Jo h hx]
 | own id=>exact ZcY h (x:=.own id) hx
 | _=>rfl
theorem ZaB (h:Qm U hp hp'):∀ {xs:List AV},(∀ x∈xs,InU U x)→X8 hp xs=X8 hp' xs
 | [],_=>rfl
 | x :: xs,hx=>by
  simp only[X8];rw[Zjf h (hx x (by simp)),ZaB h (xs:=xs) fun y hy=>hx y (Km _ hy)]
theorem UF (h:Qm U hp hp') {x:AV} (hx:∀ id∈Ze x,U id):Zaw hp x=Zaw hp' x:=by
 cases x<;>simp only[Zaw]
 case own id=>rw[h.same id (hx id (by simp[Ze]))]
 case ownv id off n=>rw[h.same id (hx id (by simp[Ze]))]
theorem Zd2 (h:Qm U hp hp'):∀ {xs:List AV},(∀ id∈xs.flatMap Ze,U id)→ZY (Zaw hp) xs=ZY (Zaw hp') xs
 | [],_=>rfl
 | x :: xs,hx=>by
  simp only[ZY];rw[UF h fun id aa=>hx id (by simp only[Kz,Kd];exact .inl aa),Zd2 h (xs:=xs) fun id aa=>hx id (by simp only[Kz,Kd];exact .inr aa)]
theorem Zf2 (h:Qm U hp hp') {x:AV} (hx:InU U x):toD hp x=toD hp' x:=by
 cases x with
 | agg cs=>simp only[toD];rw[Zd2 h hx]
 | own id=>exact UF h (x:=.own id) hx
 | ownv id off n=>exact UF h (x:=.ownv id off n) hx
 | _=>rfl
theorem Zjg (h:Qm U hp hp') (m:Bool) {x:AV} (hx:InU U x):WL hp m x=WL hp' m x:=by
 cases x with
 | own id=>
  simp only[WL];cases m
  ·simp only[UM];rw[UF h (x:=.own id) hx]
  ·rfl
 | agg cs=>
  simp only[WL];cases m
  ·simp only[UN];rw[Zf2 h hx]
  ·rfl
 | ownv id off n=>simp only[WL];rw[Zf2 h hx]
 | _=>rfl
theorem Zd3 (h:Qm U hp hp') (m:Nat→Bool):∀ {xs:List AV} (i:Nat),(∀ x∈xs,InU U x)→args hp m i xs=args hp' m i xs
 | [],i,_=>rfl
 | x :: xs,i,hx=>by
  simp only[args];rw[Zjg h (m i) (hx x (by simp)),Zd3 h m (xs:=xs) (i+1) fun y hy=>hx y (Km _ hy)]
theorem Znx {m:Bool} {x y:AV} (hx:InU U x) (h:WL hp m x=some y):InU U y:=by
 unfold WL at h;split at h
 ·cases h;exact hx
 ·cases h;exact hx
 ·cases h;exact hx
 ·cases h;exact hx
 ·cases h;exact hx
 ·rename_i id;cases m
  ·simp only[UM,asD] at h;obtain⟨d,_,h⟩:=Za h;cases h;exact fun id aa=>by simp[Zj,Zm,Ze] at aa
  ·simp only[UM] at h;cases h;exact hx
 ·cases m
  ·simp only[JA] at h;cases h;exact fun id aa=>by simp[Zj,Zm,Ze] at aa
  ·simp only[JA] at h;cases h;exact hx
 ·cases h;exact hx
 ·cases m
  ·simp only[UN,asD] at h;obtain⟨d,_,h⟩:=Za h;cases h;exact fun id aa=>by simp[Zj,Zm,Ze] at aa
  ·simp only[UN] at h;split at h
   ·cases h
   ·cases h;exact hx
 ·obtain⟨d,_,h⟩:=Za h;cases h;exact fun id aa=>by simp[Zj,Zm,Ze] at aa
theorem Zkp {m:Nat→Bool}:∀ {xs ys:List AV} (i:Nat),(∀ x∈xs,InU U x)→args hp m i xs=some ys→∀ y∈ys,InU U y
 | [],ys,i,_,h=>by simp only[args] at h;cases h;simp
 | x :: xs,ys,i,hx,h=>by
  simp only[args] at h;obtain⟨y,h1,h⟩:=Za h;obtain⟨aa,h2,h⟩:=Za h;cases h;intro z hz;rcases Ke.1 hz with rfl | hz
  ·exact Znx (hx x (by simp)) h1
  ·exact Zkp (i+1) (fun y hy=>hx y (by simp[hy])) h2 z hz
theorem WP (h:Qm U hp hp'):∀ (n:Nat) (todo aa:List Nat),(∀ i∈todo,U i)→Qh hp n todo aa=Qh hp' n todo aa
 | 0,todo,aa,_=>by simp only[Qh]
 | n+1,[],aa,_=>by simp only[Qh]
 | n+1,id :: todo,aa,ht=>by
  simp only[Qh];rw[WP h n todo aa fun i hi=>ht i (by simp[hi])];rw[← h.same id (ht id (by simp))];cases hl:lkp hp id with
  | none=>simp only[YZ];rw[WP h n todo aa fun i hi=>ht i (by simp[hi])]
  | some o=>
   simp only[YZ];rw[WP h n (todo++YQ o) (aa++[id]) fun i hi=>by
    rcases Kd.1 hi with hi | hi
    ·exact ht i (by simp[hi])
    ·exact h.closed id o (ht id (by simp)) hl i hi]
theorem Zbr (h:Qm U hp hp'):∀ (n:Nat) (todo aa:List Nat),(∀ i∈todo,U i)→(∀ i∈aa,U i)→∀ i∈Qh hp n todo aa,U i
 | 0,todo,aa,_,ha=>by simp only[Qh];exact ha
 | n+1,[],aa,_,ha=>by simp only[Qh];exact ha
 | n+1,id :: todo,aa,ht,ha=>by
  simp only[Qh];split
  ·exact Zbr h n todo aa (fun i hi=>ht i (by simp[hi])) ha
  ·cases hl:lkp hp id with
   | none=>simp only[YZ];exact Zbr h n todo aa (fun i hi=>ht i (by simp[hi])) ha
   | some o=>
    simp only[YZ];refine Zbr h n (todo++YQ o) (aa++[id]) (fun i hi=>?_) fun i hi=>?_
    ·rcases Kd.1 hi with hi | hi
     ·exact ht i (by simp[hi])
     ·exact h.closed id o (ht id (by simp)) hl i hi
    ·rcases Kd.1 hi with hi | hi
     ·exact ha i hi
     ·simp at hi;subst hi;exact ht i (by simp)
theorem Zd4 (h:Qm U hp hp'):∀ {ids:List Nat},(∀ i∈ids,U i)→W5 hp ids=W5 hp' ids
 | [],_=>rfl
 | i :: ids,hi=>by simp only[W5,h.same i (hi i (by simp)),Zd4 h (ids:=ids) fun j hj=>hi j (Km _ hj)]
theorem Zd5 (h:Qm U hp hp') {base:Nat} {ids aa:List Nat} (hi:∀ i∈ids,U i) (hl:∀ i∈aa,U i) (keep:Bool) (r:AV) (out:List Zg):VG keep hp base ids aa r out=VG keep hp' base ids aa r out:=by
 unfold VG;have:Zcn hp ids out keep=Zcn hp' ids out keep:=by
  cases keep
  ·exact List.filter_congr fun i hm=>by rw[h.same i (hi i hm)]
  ·rfl
 have h2:∀ {l:List Nat},(∀ i∈l,U i)→(l.any fun i=>Wt (lkp hp i))=l.any fun i=>Wt (lkp hp' i):=by
  intro l
  induction l with
  | nil=>intro _;rfl
  | cons i l ih=>intro hl;simp only[List.any_cons];rw[h.same i (hl i (by simp)),ih fun k hk=>hl k (by simp[hk])]
 rw[this,h2 hl]
theorem Zmo (x:AV):∀ i∈WM x,i∈Ze x:=by
 intro i hi;cases x<;>simp only[WM,Ze] at hi ⊢ <;> first | exact hi | (simp at hi)
theorem Zla (x:AV):∀ i∈UC x,i∈Zj x:=by
 intro i hi;cases x with
 | agg cs=>
  obtain⟨c,hc,hi⟩:=Kk.1 hi;exact Kk.2 ⟨c,hc,Zmo c i hi⟩
 | own id=>exact hi
 | ownv id a b=>exact hi
 | _=>simp[UC,WM] at hi
theorem Zf3:∀ {xs ys:List AV},(∀ x∈xs,InU U x)→∀ i∈Q7 xs ys,U i
 | [],ys,_,i,hi=>by cases ys<;>simp[Q7] at hi
 | x :: xs,[],_,i,hi=>by simp[Q7] at hi
 | x :: xs,y :: ys,hx,i,hi=>by
  have ih:=Zf3 (ys:=ys) fun z hz=>hx z (Km _ hz);cases y<;>simp only[Q7] at hi<;>first | exact ih i hi | skip
  rcases Kd.1 hi with hi | hi
  ·exact hx x (by simp) i (Zla x i hi)
  ·exact ih i hi
theorem ZaC (h:Qm U hp hp') (rs:List Nat):∀ {ids:List Nat},(∀ i∈ids,U i)→V9 hp rs ids=V9 hp' rs ids
 | [],_=>rfl
 | i :: ids,hi=>by
  have ih:=ZaC h rs (ids:=ids) fun k hk=>hi k (by simp[hk]);simp only[V9,Li] at ih ⊢;rw[ih,h.1 i (hi i (by simp))]
theorem Zh7 (h:Qm U hp hp') (C:Orc) (m:Nat→Bool) (base f:Nat) {ab:List AV} (hx:∀ x∈ab,InU U x):WT C m hp base f ab=WT C m hp' base f ab:=by
 unfold WT;rw[← Zd3 h m 0 hx];cases ha:args hp m 0 ab with
 | none=>rfl
 | some as=>
  simp only[bnd];have ad:=Zkp 0 hx ha;have ht:∀ i∈as.flatMap Zj,U i:=fun i hi=>by
   obtain⟨y,hy,hi⟩:=Kk.1 hi;exact ad y hy i hi
  have hf:QH hp=QH hp':=rfl;rw[hf,← WP h (QH hp') (as.flatMap Zj) [] ht];have aa:=Zbr h (QH hp') (as.flatMap Zj) [] ht (by simp);unfold UO;rw[Zd4 h aa,ZaC h _ aa];congr 1
  congr 1
  funext q
  exact Zd5 h aa (Zf3 hx) (m 99) q.1 q.2
theorem clo_in {f:Nat} {aa:List AV} (h:InU U (.clo f aa)):∀ x∈aa,x.atom=true→InU U x:=by
 intro x hx ha id ab;refine h id (Kk.2 ⟨x,hx,?_⟩);cases x<;>first | exact ab | (simp[AV.atom] at ha)
end
end Go.Abs
