/- Own text. -/
import Derived.Test.YtighjmleicikhaaAbsSound2
set_option linter.unusedVariables false
set_option linter.unusedSimpArgs false
namespace Go.Abs
open Go
theorem JF {sl sl' : Sl}:∀ {xs:List Opd},(∀ x∈xs,evO sl x=evO sl' x)→evL sl xs=evL sl' xs
 | [],_=>rfl
 | x :: xs,h=>by simp only[evL,h x (by simp),JF (xs:=xs) fun y hy=>h y (Ko _ hy)]
theorem ZiC {sl sl' : Sl}:∀ {xs:List (Nat×Nat×Opd)},(∀ x∈xs.map (fun q=>q.2.2),evO sl x=evO sl' x)→evP sl xs=evP sl' xs
 | [],_=>rfl
 | (a,b,x) :: xs,h=>by simp only[evP,h x (by simp),ZiC (xs:=xs) fun y hy=>h y (by simp only[Kq,Ke];exact .inr hy)]
theorem ZbI {sl sl' : Sl} {x:Option Opd} (h:∀ y∈Zna x,evO sl y=evO sl' y):evM sl x=evM sl' x:=by
 cases x with
 | none=>rfl
 | some y=>simp only[evM,h y (by simp[Zna])]
theorem QB (C:Orc) (M:Zg) {sl sl' : Sl} (hp:Hp) (base:Nat):∀ {c:COp},(∀ x∈Zr c,evO sl x=evO sl' x)→vop C M sl hp base c=vop C M sl' hp base c:=by
 intro c h;cases c<;>simp only[Zr] at h<;>simp only[vop]
 case move x=>rw[h x (by simp)]
 case assign s x=>rw[h x (by simp)]
 case pick c a b=>rw[h c (by simp),h a (by simp),h b (by simp)]
 case box x=>rw[h x (by simp)]
 case build zs ps=>rw[ZiC h]
 case buildSl s xs=>rw[JF h]
 case load g s a=>rw[h a (by simp)]
 case store slc s a x=>rw[h a (by simp),h x (by simp)]
 case nilCheck x=>rw[h x (by simp)]
 case bin op eq x y=>rw[h x (by simp),h y (by simp)]
 case un op x=>rw[h x (by simp)]
 case eqA neg n x y=>rw[h x (by simp),h y (by simp)]
 case convI k x=>rw[h x (by simp)]
 case convS x=>rw[h x (by simp)]
 case fn f cs=>rw[JF h]
 case make s b z l c=>rw[h l (by simp),h c (by simp)]
 case slice s x lo hi=>rw[h x (by simp),ZbI fun y hy=>h y (by simp[hy]),ZbI (x:=hi) fun y hy=>h y (by simp[hy])]
 case sliceS x lo hi=>rw[h x (by simp),ZbI fun y hy=>h y (by simp[hy]),ZbI (x:=hi) fun y hy=>h y (by simp[hy])]
 case slice0 x hi mx=>rw[h x (by simp),h hi (by simp),h mx (by simp)]
 case shift off x=>rw[h x (by simp)]
 case part g s off x=>rw[h x (by simp)]
 case iaS s x i=>rw[h x (by simp),h i (by simp)]
 case iaA len s x i=>rw[h x (by simp),h i (by simp)]
 case ixS x i=>rw[h x (by simp),h i (by simp)]
 case ixA g s len x i=>rw[h x (by simp),h i (by simp)]
 case nth i x=>rw[h x (by simp)]
 case len x=>rw[h x (by simp)]
 case lenS x=>rw[h x (by simp)]
 case append s b str flat x y=>rw[h x (by simp),h y (by simp)]
 case min x y=>rw[h x (by simp),h y (by simp)]
 case max x y=>rw[h x (by simp),h y (by simp)]
 case slice3 s x lo hi mx=>rw[h x (by simp),h lo (by simp),h hi (by simp),h mx (by simp)]
 case clear s z x=>rw[h x (by simp)]
 case buildT s n xs=>rw[JF h]
 case appT s b f x y=>rw[h x (by simp),h y (by simp)]
 case asgT s n x=>rw[h x (by simp)]
 case makeT s b n z l c=>rw[h l (by simp),h c (by simp)]
 case call f as=>rw[h f (by simp),JF (xs:=as) fun y hy=>h y (Ko _ hy)]
section
variable {U:Nat→Prop} {hp hp' : Hp}
structure QF (U:Nat→Prop) (hp hp' : Hp):Prop where
 same:∀ id,U id→lkp hp id=lkp hp' id
 closed:∀ id o,U id→lkp hp id=some o→∀ i∈VH o,U i
def InU (U:Nat→Prop) (x:AV):Prop:=∀ id∈Zm x,U id
theorem Zlj (h:QF U hp hp') {x:AV} (hx:InU U x) (g:Bool) (s:Nat):Y7 hp g s x=Y7 hp' g s x:=by
 cases x<;>simp only[Y7]
 case ptr id off=>rw[h.same id (hx id (by simp[Zm,Zo,Zf]))]
 case prow id sz i off=>rw[h.same id (hx id (by simp[Zm,Zo,Zf]))]
theorem Zek (h:QF U hp hp') {x:AV} (hx:InU U x) (sz n:Nat):Z9 hp sz n x=Z9 hp' sz n x:=by
 cases x<;>simp only[Z9]
 case d x=>cases x<;>rfl
 case own id=>rw[h.same id (hx id (by simp[Zm,Zo,Zf]))]
 case ownv id off m=>rw[h.same id (hx id (by simp[Zm,Zo,Zf]))]
theorem ZjX (h:QF U hp hp') {x:AV} (hx:InU U x) (s:Nat) (lo hi:Option AV):X1 hp s lo hi x=X1 hp' s lo hi x:=by
 cases x<;>simp only[X1]
 case d x=>cases x<;>rfl
 case own id=>rw[h.same id (hx id (by simp[Zm,Zo,Zf]))]
 case ownv id off m=>rw[h.same id (hx id (by simp[Zm,Zo,Zf]))]
theorem ZcO (h:QF U hp hp') {x:AV} (hx:InU U x):Jl hp x=Jl hp' x:=by
 cases x<;>simp only[Jl]
 case d x=>cases x<;>rfl
 case own id=>rw[h.same id (hx id (by simp[Zm,Zo,Zf]))]
theorem ZjY (h:QF U hp hp') {x:AV} (hx:InU U x) (s:Nat) (z:D):Zag hp s z x=Zag hp' s z x:=by
 cases x<;>simp only[Zag]
 case ownv id off m=>rw[h.same id (hx id (by simp[Zm,Zo,Zf]))]
theorem Zlk (h:QF U hp hp') {x:AV} (hx:InU U x) (flat:Bool):Zbf hp flat x=Zbf hp' flat x:=by
 cases x<;>simp only[Zbf]
 case d x=>cases x<;>rfl
 case own id=>rw[h.same id (hx id (by simp[Zm,Zo,Zf]))]
 case ownv id off m=>rw[h.same id (hx id (by simp[Zm,Zo,Zf]))]
theorem Zll (h:QF U hp hp') {x:AV} (hx:InU U x) (sz b base:Nat) (aa:List Nat) (ys:List D) (ex:Bool):Zcp hp sz b base aa ys ex x=Zcp hp' sz b base aa ys ex x:=by
 cases x<;>simp only[Zcp]
 case own id=>rw[h.same id (hx id (by simp[Zm,Zo,Zf]))]
 case ownv id off m=>rw[h.same id (hx id (by simp[Zm,Zo,Zf]))]
theorem Zih (h:QF U hp hp') {x:AV} (hx:InU U x):U6 hp x=U6 hp' x:=by
 cases x<;>simp only[U6]
 case own id=>rw[h.same id (hx id (by simp[Zm,Zo,Zf]))]
theorem Zii (h:QF U hp hp') {x:AV} (hx:InU U x) (s b base id n:Nat) (ys:List D):W8 hp s b base id n ys x=W8 hp' s b base id n ys x:=by
 cases x<;>simp only[W8]
 case own k=>rw[h.same k (hx k (by simp[Zm,Zo,Zf]))]
theorem Zcc (h:QF U hp hp') {x y:AV} (hx:InU U x) (hy:InU U y) (s b:Nat) (str flat:Bool) (base:Nat):VQ hp s b str flat base x y=VQ hp' s b str flat base x y:=by
 unfold VQ;rw[Zlk h hy];congr 1
 funext q
 rw[Zll h hx]
theorem Zdn (h:QF U hp hp') {x:AV} (hx:InU U x):Q4 hp x=Q4 hp' x:=by
 cases x<;>simp only[Q4]
 case own id=>rw[h.same id (hx id (by simp[Zm,Zo,Zf]))]
theorem ZjZ (h:QF U hp hp') (ids:List Nat):QF U (meltIn hp ids) (meltIn hp' ids):=by
 refine⟨fun id aa=>by rw[Vm,Vm,h.same id aa],fun id o aa hl=>?_⟩;rw[Vm] at hl;cases hl0:lkp hp id with
 | none=>rw[hl0] at hl;cases hl
 | some o0=>
  rw[hl0] at hl;simp only[KO,Option.some.injEq] at hl;subst hl;have:=h.closed id o0 aa hl0;split
  ·cases o0 with
   | tree s n xs l=>cases l<;>exact this
   | _=>exact this
  ·exact this
theorem Zcd (h:QF U hp hp') {x y:AV} (hx:InU U x) (hy:InU U y) (s b:Nat) (str flat:Bool) (base:Nat) (ms:List Nat):XN hp s b str flat base x y ms=XN hp' s b str flat base x y ms:=by
 cases ms with
 | nil=>exact Zcc h hx hy s b str flat base
 | cons i r=>simp only[XN];rw[Zcc (ZjZ h (i :: r)) hx hy]
theorem Zgy (h:QF U hp hp') {x y:AV} (hx:InU U x) (hy:InU U y) (s b base:Nat):appT hp s b base x y=appT hp' s b base x y:=by
 unfold appT;rw[Zih h hy];congr 2
 funext q
 rw[Zii h hx]
theorem ZeU (h:QF U hp hp') {x:AV} (hx:∀ id∈Zf x,U id):WV hp x=WV hp' x:=by
 cases x<;>simp only[WV]
 case own id=>rw[h.same id (hx id (by simp[Zf]))]
theorem Za3 (h:QF U hp hp'):∀ {xs:List AV},(∀ id∈xs.flatMap Zf,U id)→X6 hp xs=X6 hp' xs
 | [],_=>rfl
 | x :: xs,hx=>by
  simp only[X6];rw[ZeU h fun id aa=>hx id (by simp only[Kw,Kd];exact .inl aa),Za3 h (xs:=xs) fun id aa=>hx id (by simp only[Kw,Kd];exact .inr aa)]
theorem Zlm (h:QF U hp hp') {n:Nat} {x:AV} (hx:∀ id∈Zf x,U id):Zbe hp n x=Zbe hp' n x:=by
 cases x<;>simp only[Zbe]
 case own id=>rw[h.same id (hx id (by simp[Zf]))]
theorem Za4 (h:QF U hp hp') {n:Nat}:∀ {xs:List AV},(∀ id∈xs.flatMap Zf,U id)→Yv hp n xs=Yv hp' n xs
 | [],_=>rfl
 | x :: xs,hx=>by
  simp only[Yv];rw[Zlm h fun id aa=>hx id (by simp only[Kw,Kd];exact .inl aa),Za4 h (xs:=xs) fun id aa=>hx id (by simp only[Kw,Kd];exact .inr aa)]
theorem Zce (h:QF U hp hp') {n s:Nat}:∀ {xs:List AV},(∀ x∈xs,InU U x)→Vc hp n s xs=Vc hp' n s xs
 | [],_=>rfl
 | x :: xs,hx=>by
  cases x<;>simp only[Vc]
  rename_i cs;rw[Za4 h (hx (.agg cs) (by simp)),Zce h (xs:=xs) fun x hm=>hx x (Ko _ hm)]
theorem Zj0 (h:QF U hp hp') {base s n:Nat} {xs:List AV} (hx:∀ x∈xs,InU U x):buildT hp base s n xs=buildT hp' base s n xs:=by
 unfold buildT;rw[Zce h hx]
theorem Zj1 (h:QF U hp hp') {x:AV} (hx:InU U x) (slc:List (Option Nat)) (s base:Nat) (vs:List AV) (hv:∀ id∈vs.flatMap Zf,U id):WQ hp slc s base vs x=WQ hp' slc s base vs x:=by
 cases x<;>simp only[WQ]
 case ptr id off=>rw[h.same id (hx id (by simp[Zm,Zo,Zf]))]
 case prow id sz i off=>
  rw[h.same id (hx id (by simp[Zm,Zo,Zf]))];unfold UB;rw[Za3 h hv];have ht:∀ n,Yv hp n vs=Yv hp' n vs:=fun n=>Za4 h hv;simp only[ht]
theorem Zgz {x:AV} (hx:InU U x):∀ id∈x.cells.flatMap Zf,U id:=by
 intro id aa;refine hx id ?_;cases x<;>simp only[AV.cells] at aa<;>first
  | (simp[Zf] at aa;done)
  | (obtain⟨c,hc,ab⟩:=Kl.1 aa;obtain⟨y,_,rfl⟩:=K7.1 hc;simp[Zf] at ab;done)
  | (simpa [Zm,Zo,Zf] using aa)
theorem ZmF (h:QF U hp hp') {x:AV} (hx:InU U x):give hp x=give hp' x:=by
 cases x with
 | agg cs=>simp only[give];rw[Za3 h hx]
 | own id=>exact ZeU h (x:=.own id) hx
 | _=>rfl
theorem Zcf (h:QF U hp hp'):∀ {xs:List AV},(∀ x∈xs,InU U x)→YI hp xs=YI hp' xs
 | [],_=>rfl
 | x :: xs,hx=>by
  simp only[YI];rw[ZmF h (hx x (by simp)),Zcf h (xs:=xs) fun y hy=>hx y (Ko _ hy)]
theorem Zaa (h:QF U hp hp') {x:AV} (hx:∀ id∈Zf x,U id):Zb3 hp x=Zb3 hp' x:=by
 cases x<;>simp only[Zb3]
 case own id=>rw[h.same id (hx id (by simp[Zf]))]
 case ownv id off n=>rw[h.same id (hx id (by simp[Zf]))]
theorem ZgA (h:QF U hp hp'):∀ {xs:List AV},(∀ id∈xs.flatMap Zf,U id)→Z6 (Zb3 hp) xs=Z6 (Zb3 hp') xs
 | [],_=>rfl
 | x :: xs,hx=>by
  simp only[Z6];rw[Zaa h fun id aa=>hx id (by simp only[Kw,Kd];exact .inl aa),ZgA h (xs:=xs) fun id aa=>hx id (by simp only[Kw,Kd];exact .inr aa)]
theorem ZiD (h:QF U hp hp') {x:AV} (hx:InU U x):toD hp x=toD hp' x:=by
 cases x with
 | agg cs=>simp only[toD];rw[ZgA h hx]
 | own id=>exact Zaa h (x:=.own id) hx
 | ownv id off n=>exact Zaa h (x:=.ownv id off n) hx
 | _=>rfl
theorem ZmG (h:QF U hp hp') (m:Bool) {x:AV} (hx:InU U x):UT hp m x=UT hp' m x:=by
 cases x with
 | own id=>
  simp only[UT];cases m
  ·simp only[Zah];rw[Zaa h (x:=.own id) hx]
  ·rfl
 | agg cs=>
  simp only[UT];cases m
  ·simp only[Zai];rw[ZiD h hx]
  ·rfl
 | ownv id off n=>simp only[UT];rw[ZiD h hx]
 | _=>rfl
theorem ZgB (h:QF U hp hp') (m:Nat→Bool):∀ {xs:List AV} (i:Nat),(∀ x∈xs,InU U x)→args hp m i xs=args hp' m i xs
 | [],i,_=>rfl
 | x :: xs,i,hx=>by
  simp only[args];rw[ZmG h (m i) (hx x (by simp)),ZgB h m (xs:=xs) (i+1) fun y hy=>hx y (Ko _ hy)]
theorem ZrF {m:Bool} {x y:AV} (hx:InU U x) (h:UT hp m x=some y):InU U y:=by
 unfold UT at h;split at h
 ·cases h;exact hx
 ·cases h;exact hx
 ·cases h;exact hx
 ·cases h;exact hx
 ·cases h;exact hx
 ·rename_i id;cases m
  ·simp only[Zah,asD] at h;obtain⟨d,_,h⟩:=Za h;cases h;exact fun id aa=>by simp[Zm,Zo,Zf] at aa
  ·simp only[Zah] at h;cases h;exact hx
 ·cases m
  ·simp only[Zbg] at h;cases h;exact fun id aa=>by simp[Zm,Zo,Zf] at aa
  ·simp only[Zbg] at h;cases h;exact hx
 ·cases h;exact hx
 ·cases m
  ·simp only[Zai,asD] at h;obtain⟨d,_,h⟩:=Za h;cases h;exact fun id aa=>by simp[Zm,Zo,Zf] at aa
  ·simp only[Zai] at h;split at h
   ·cases h
   ·cases h;exact hx
 ·obtain⟨d,_,h⟩:=Za h;cases h;exact fun id aa=>by simp[Zm,Zo,Zf] at aa
theorem ZnM {m:Nat→Bool}:∀ {xs ys:List AV} (i:Nat),(∀ x∈xs,InU U x)→args hp m i xs=some ys→∀ y∈ys,InU U y
 | [],ys,i,_,h=>by simp only[args] at h;cases h;simp
 | x :: xs,ys,i,hx,h=>by
  simp only[args] at h;obtain⟨y,h1,h⟩:=Za h;obtain⟨aa,h2,h⟩:=Za h;cases h;intro z hz;rcases Ke.1 hz with rfl | hz
  ·exact ZrF (hx x (by simp)) h1
  ·exact ZnM (i+1) (fun y hy=>hx y (by simp[hy])) h2 z hz
theorem U2 (h:QF U hp hp'):∀ (n:Nat) (todo aa:List Nat),(∀ i∈todo,U i)→Qw hp n todo aa=Qw hp' n todo aa
 | 0,todo,aa,_=>by simp only[Qw]
 | n+1,[],aa,_=>by simp only[Qw]
 | n+1,id :: todo,aa,ht=>by
  simp only[Qw];rw[U2 h n todo aa fun i hi=>ht i (by simp[hi])];rw[← h.same id (ht id (by simp))];cases hl:lkp hp id with
  | none=>simp only[VR];rw[U2 h n todo aa fun i hi=>ht i (by simp[hi])]
  | some o=>
   simp only[VR];rw[U2 h n (todo++VH o) (aa++[id]) fun i hi=>by
    rcases Kd.1 hi with hi | hi
    ·exact ht i (by simp[hi])
    ·exact h.closed id o (ht id (by simp)) hl i hi]
theorem Zdo (h:QF U hp hp'):∀ (n:Nat) (todo aa:List Nat),(∀ i∈todo,U i)→(∀ i∈aa,U i)→∀ i∈Qw hp n todo aa,U i
 | 0,todo,aa,_,ha=>by simp only[Qw];exact ha
 | n+1,[],aa,_,ha=>by simp only[Qw];exact ha
 | n+1,id :: todo,aa,ht,ha=>by
  simp only[Qw];split
  ·exact Zdo h n todo aa (fun i hi=>ht i (by simp[hi])) ha
  ·cases hl:lkp hp id with
   | none=>simp only[VR];exact Zdo h n todo aa (fun i hi=>ht i (by simp[hi])) ha
   | some o=>
    simp only[VR];refine Zdo h n (todo++VH o) (aa++[id]) (fun i hi=>?_) fun i hi=>?_
    ·rcases Kd.1 hi with hi | hi
     ·exact ht i (by simp[hi])
     ·exact h.closed id o (ht id (by simp)) hl i hi
    ·rcases Kd.1 hi with hi | hi
     ·exact ha i hi
     ·simp at hi;subst hi;exact ht i (by simp)
theorem ZgC (h:QF U hp hp'):∀ {ids:List Nat},(∀ i∈ids,U i)→Jo hp ids=Jo hp' ids
 | [],_=>rfl
 | i :: ids,hi=>by simp only[Jo,h.same i (hi i (by simp)),ZgC h (ids:=ids) fun j hj=>hi j (Ko _ hj)]
theorem ZgD (h:QF U hp hp') {base:Nat} {ids aa:List Nat} (hi:∀ i∈ids,U i) (hl:∀ i∈aa,U i) (keep:Bool) (r:AV) (out:List Zh):WJ keep hp base ids aa r out=WJ keep hp' base ids aa r out:=by
 unfold WJ;have:Zes hp ids out keep=Zes hp' ids out keep:=by
  cases keep
  ·exact List.filter_congr fun i hm=>by rw[h.same i (hi i hm)]
  ·rfl
 have h2:∀ {l:List Nat},(∀ i∈l,U i)→(l.any fun i=>UH (lkp hp i))=l.any fun i=>UH (lkp hp' i):=by
  intro l
  induction l with
  | nil=>intro _;rfl
  | cons i l ih=>intro hl;simp only[List.any_cons];rw[h.same i (hl i (by simp)),ih fun k hk=>hl k (by simp[hk])]
 rw[this,h2 hl]
theorem Zp2 (x:AV):∀ i∈UZ x,i∈Zf x:=by
 intro i hi;cases x<;>simp only[UZ,Zf] at hi ⊢ <;> first | exact hi | (simp at hi)
theorem Zoz (x:AV):∀ i∈J7 x,i∈Zm x:=by
 intro i hi;cases x with
 | agg cs=>
  obtain⟨c,hc,hi⟩:=Kl.1 hi;exact Kl.2 ⟨c,hc,Zp2 c i hi⟩
 | own id=>exact hi
 | ownv id a b=>exact hi
 | _=>simp[J7,UZ] at hi
theorem ZiE:∀ {xs ys:List AV},(∀ x∈xs,InU U x)→∀ i∈Xu xs ys,U i
 | [],ys,_,i,hi=>by cases ys<;>simp[Xu] at hi
 | x :: xs,[],_,i,hi=>by simp[Xu] at hi
 | x :: xs,y :: ys,hx,i,hi=>by
  have ih:=ZiE (ys:=ys) fun z hz=>hx z (Ko _ hz);cases y<;>simp only[Xu] at hi<;>first | exact ih i hi | skip
  rcases Kd.1 hi with hi | hi
  ·exact hx x (by simp) i (Zoz x i hi)
  ·exact ih i hi
theorem Zcg (h:QF U hp hp') (rs:List Nat):∀ {ids:List Nat},(∀ i∈ids,U i)→W7 hp rs ids=W7 hp' rs ids
 | [],_=>rfl
 | i :: ids,hi=>by
  have ih:=Zcg h rs (ids:=ids) fun k hk=>hi k (by simp[hk]);simp only[W7,La] at ih ⊢;rw[ih,h.1 i (hi i (by simp))]
theorem Zln (h:QF U hp hp') (C:Orc) (m:Nat→Bool) (base f:Nat) {ab:List AV} (hx:∀ x∈ab,InU U x):U5 C m hp base f ab=U5 C m hp' base f ab:=by
 unfold U5;rw[← ZgB h m 0 hx];cases ha:args hp m 0 ab with
 | none=>rfl
 | some as=>
  simp only[bnd];have ad:=ZnM 0 hx ha;have ht:∀ i∈as.flatMap Zm,U i:=fun i hi=>by
   obtain⟨y,hy,hi⟩:=Kl.1 hi;exact ad y hy i hi
  have hf:Q3 hp=Q3 hp':=rfl;rw[hf,← U2 h (Q3 hp') (as.flatMap Zm) [] ht];have aa:=Zdo h (Q3 hp') (as.flatMap Zm) [] ht (by simp);unfold Zaj;rw[ZgC h aa,Zcg h _ aa];congr 1
  congr 1
  funext q
  exact ZgD h aa (ZiE hx) (m 99) q.1 q.2
theorem clo_in {f:Nat} {aa:List AV} (h:InU U (.clo f aa)):∀ x∈aa,x.atom=true→InU U x:=by
 intro x hx ha id ab;refine h id (Kl.2 ⟨x,hx,?_⟩);cases x<;>first | exact ab | (simp[AV.atom] at ha)
end
end Go.Abs
