/- Own text. -/
import Derived.Test.YtcefneehgbiebaaGreatDoorAbsSound2
set_option linter.unusedVariables false
set_option linter.unusedSimpArgs false
namespace Go.Abs
open Go
theorem ZfD {sl sl' : Sl}:∀ {xs:List Opd},(∀ x∈xs,evO sl x=evO sl' x)→evL sl xs=evL sl' xs
 | [],_=>rfl
 | x :: xs,h=>by simp only[evL,h x (by simp),ZfD (xs:=xs) fun y hy=>h y (KB _ hy)]
theorem Ztw {sl sl' : Sl}:∀ {xs:List (Nat×Nat×Opd)},(∀ x∈xs.map (fun q=>q.2.2),evO sl x=evO sl' x)→evP sl xs=evP sl' xs
 | [],_=>rfl
 | (a,b,x) :: xs,h=>by simp only[evP,h x (by simp),Ztw (xs:=xs) fun y hy=>h y (by simp only[Kk,Ke];exact .inr hy)]
theorem ZjI {sl sl' : Sl} {x:Option Opd} (h:∀ y∈ZlM x,evO sl y=evO sl' y):evM sl x=evM sl' x:=by
 cases x with
 | none=>rfl
 | some y=>simp only[evM,h y (by simp[ZlM])]
theorem Xk (C:Orc) (M:Zp) {sl sl' : Sl} (hp:Hp) (base:Nat):∀ {c:COp},(∀ x∈ZM c,evO sl x=evO sl' x)→vop C M sl hp base c=vop C M sl' hp base c:=by
 intro c h;cases c<;>simp only[ZM] at h<;>simp only[vop]
 case move x=>rw[h x (by simp)]
 case assign s x=>rw[h x (by simp)]
 case pick c a b=>rw[h c (by simp),h a (by simp),h b (by simp)]
 case box x=>rw[h x (by simp)]
 case build zs ps=>rw[Ztw h]
 case buildSl s xs=>rw[ZfD h]
 case load g s a=>rw[h a (by simp)]
 case store slc s a x=>rw[h a (by simp),h x (by simp)]
 case nilCheck x=>rw[h x (by simp)]
 case bin op eq x y=>rw[h x (by simp),h y (by simp)]
 case un op x=>rw[h x (by simp)]
 case eqA neg n x y=>rw[h x (by simp),h y (by simp)]
 case convI k x=>rw[h x (by simp)]
 case convS x=>rw[h x (by simp)]
 case fn f cs=>rw[ZfD h]
 case make s b z l c=>rw[h l (by simp),h c (by simp)]
 case slice s x lo hi=>rw[h x (by simp),ZjI fun y hy=>h y (by simp[hy]),ZjI (x:=hi) fun y hy=>h y (by simp[hy])]
 case sliceS x lo hi=>rw[h x (by simp),ZjI fun y hy=>h y (by simp[hy]),ZjI (x:=hi) fun y hy=>h y (by simp[hy])]
 case slice0 x hi mx=>rw[h x (by simp),h hi (by simp),h mx (by simp)]
 case shift off x=>rw[h x (by simp)]
 case part g s off x=>rw[h x (by simp)]
 case iaS s x i=>rw[h x (by simp),h i (by simp)]
 case iaA len s x i=>rw[h x (by simp),h i (by simp)]
 case ixS x i=>rw[h x (by simp),h i (by simp)]
 case ixA g s len x i=>rw[h x (by simp),h i (by simp)]
 case nth i x=>rw[h x (by simp)]
 case len x=>rw[h x (by simp)]
 case lenS x=>rw[h x (by simp)]
 case append s b str flat x y=>rw[h x (by simp),h y (by simp)]
 case min x y=>rw[h x (by simp),h y (by simp)]
 case max x y=>rw[h x (by simp),h y (by simp)]
 case slice3 s x lo hi mx=>rw[h x (by simp),h lo (by simp),h hi (by simp),h mx (by simp)]
 case clear s z x=>rw[h x (by simp)]
 case buildDp s n xs=>rw[ZfD h]
 case appDp s b f x y=>rw[h x (by simp),h y (by simp)]
 case asgDp s n x=>rw[h x (by simp)]
 case call f as=>rw[h f (by simp),ZfD (xs:=as) fun y hy=>h y (KB _ hy)]
section
variable {U:Nat→Prop} {hp hp' : Hp}
structure Xn (U:Nat→Prop) (hp hp' : Hp):Prop where
 same:∀ id,U id→lkp hp id=lkp hp' id
 closed:∀ id o,U id→lkp hp id=some o→∀ i∈ZbY o,U i
def InU (U:Nat→Prop) (x:AV):Prop:=∀ id∈ZC x,U id
theorem Zv2 (h:Xn U hp hp') {x:AV} (hx:InU U x) (g:Bool) (s:Nat):Jp hp g s x=Jp hp' g s x:=by
 cases x<;>simp only[Jp]
 case ptr id off=>rw[h.same id (hx id (by simp[ZC,ZD,Zn]))]
 case prow id sz i off=>rw[h.same id (hx id (by simp[ZC,ZD,Zn]))]
theorem Zn3 (h:Xn U hp hp') {x:AV} (hx:InU U x) (sz n:Nat):QF hp sz n x=QF hp' sz n x:=by
 cases x<;>simp only[QF]
 case d x=>cases x<;>rfl
 case own id=>rw[h.same id (hx id (by simp[ZC,ZD,Zn]))]
 case ownv id off m=>rw[h.same id (hx id (by simp[ZC,ZD,Zn]))]
theorem ZuD (h:Xn U hp hp') {x:AV} (hx:InU U x) (s:Nat) (lo hi:Option AV):WL hp s lo hi x=WL hp' s lo hi x:=by
 cases x<;>simp only[WL]
 case d x=>cases x<;>rfl
 case own id=>rw[h.same id (hx id (by simp[ZC,ZD,Zn]))]
 case ownv id off m=>rw[h.same id (hx id (by simp[ZC,ZD,Zn]))]
theorem Zlx (h:Xn U hp hp') {x:AV} (hx:InU U x):ZeT hp x=ZeT hp' x:=by
 cases x<;>simp only[ZeT]
 case d x=>cases x<;>rfl
 case own id=>rw[h.same id (hx id (by simp[ZC,ZD,Zn]))]
theorem ZuE (h:Xn U hp hp') {x:AV} (hx:InU U x) (s:Nat) (z:D):ZeW hp s z x=ZeW hp' s z x:=by
 cases x<;>simp only[ZeW]
 case ownv id off m=>rw[h.same id (hx id (by simp[ZC,ZD,Zn]))]
theorem ZoS (h:Xn U hp hp') {x:AV} (hx:InU U x) (flat:Bool):ZfM hp flat x=ZfM hp' flat x:=by
 cases x<;>simp only[ZfM]
 case d x=>cases x<;>rfl
 case own id=>rw[h.same id (hx id (by simp[ZC,ZD,Zn]))]
 case ownv id off m=>rw[h.same id (hx id (by simp[ZC,ZD,Zn]))]
theorem Zv3 (h:Xn U hp hp') {x:AV} (hx:InU U x) (sz b base:Nat) (aa:List Nat) (ys:List D) (ex:Bool):Zjg hp sz b base aa ys ex x=Zjg hp' sz b base aa ys ex x:=by
 cases x<;>simp only[Zjg]
 case own id=>rw[h.same id (hx id (by simp[ZC,ZD,Zn]))]
 case ownv id off m=>rw[h.same id (hx id (by simp[ZC,ZD,Zn]))]
theorem ZsK (h:Xn U hp hp') {x:AV} (hx:InU U x):Zen hp x=Zen hp' x:=by
 cases x<;>simp only[Zen]
 case own id=>rw[h.same id (hx id (by simp[ZC,ZD,Zn]))]
theorem ZsL (h:Xn U hp hp') {x:AV} (hx:InU U x) (s b base id n:Nat) (ys:List D):ZcQ hp s b base id n ys x=ZcQ hp' s b base id n ys x:=by
 cases x<;>simp only[ZcQ]
 case own k=>rw[h.same k (hx k (by simp[ZC,ZD,Zn]))]
theorem Zk3 (h:Xn U hp hp') {x y:AV} (hx:InU U x) (hy:InU U y) (s b:Nat) (str flat:Bool) (base:Nat):UK hp s b str flat base x y=UK hp' s b str flat base x y:=by
 unfold UK;rw[ZoS h hy];congr 1
 funext q
 rw[Zv3 h hx]
theorem ZmL (h:Xn U hp hp') {x:AV} (hx:InU U x):YJ hp x=YJ hp' x:=by
 cases x<;>simp only[YJ]
 case own id=>rw[h.same id (hx id (by simp[ZC,ZD,Zn]))]
theorem ZuF (h:Xn U hp hp') (ids:List Nat):Xn U (meltIn hp ids) (meltIn hp' ids):=by
 refine⟨fun id aa=>by rw[JK,JK,h.same id aa],fun id o aa hl=>?_⟩;rw[JK] at hl;cases hl0:lkp hp id with
 | none=>rw[hl0] at hl;cases hl
 | some o0=>
  rw[hl0] at hl;simp only[KJ,Option.some.injEq] at hl;subst hl;have:=h.closed id o0 aa hl0;split
  ·cases o0<;>exact this
  ·exact this
theorem ZsM (h:Xn U hp hp') {x y:AV} (hx:InU U x) (hy:InU U y) (s b:Nat) (str flat:Bool) (base:Nat) (ms:List Nat):Wc hp s b str flat base x y ms=Wc hp' s b str flat base x y ms:=by
 cases ms with
 | nil=>exact Zk3 h hx hy s b str flat base
 | cons i r=>simp only[Wc];rw[Zk3 (ZuF h (i :: r)) hx hy]
theorem Zv4 (h:Xn U hp hp') {x y:AV} (hx:InU U x) (hy:InU U y) (s b:Nat) (str flat:Bool) (base:Nat):ZfO hp s b str flat base y x=ZfO hp' s b str flat base y x:=by
 cases x<;>simp only[ZfO]<;>first | (rw[ZmL h hx,ZmL h hy];exact ZsM h hx hy s b str flat base _) | skip
 rename_i id nm;rw[ZoS h hy,h.same id (hx id (by simp[ZC,ZD,Zn]))]
theorem ZxA (h:Xn U hp hp') {x y:AV} (hx:InU U x) (hy:InU U y) (s b base:Nat):ZsU hp s b base x y=ZsU hp' s b base x y:=by
 unfold ZsU;rw[ZsK h hy];congr 2
 funext q
 rw[ZsL h hx]
theorem Zv5 (h:Xn U hp hp') {n:Nat} {x:AV} (hx:∀ id∈Zn x,U id):Zem hp n x=Zem hp' n x:=by
 cases x<;>simp only[Zem]
 case own id=>rw[h.same id (hx id (by simp[Zn]))]
theorem ZoT (h:Xn U hp hp') {n:Nat}:∀ {xs:List AV},(∀ id∈xs.flatMap Zn,U id)→ZfN hp n xs=ZfN hp' n xs
 | [],_=>rfl
 | x :: xs,hx=>by
  simp only[ZfN];rw[Zv5 h fun id aa=>hx id (by simp only[KK,Kg];exact .inl aa),ZoT h (xs:=xs) fun id aa=>hx id (by simp only[KK,Kg];exact .inr aa)]
theorem ZsN (h:Xn U hp hp') {base s n:Nat} {xs:List AV} (hx:∀ x∈xs,InU U x):buildDp hp base s n xs=buildDp hp' base s n xs:=by
 cases xs with
 | nil=>rfl
 | cons x xs=>
  cases xs with
  | cons y ys=>cases x<;>rfl
  | nil=>
   cases x<;>simp only[buildDp]
   rename_i cs;rw[ZoT h (hx (.agg cs) (by simp))]
theorem ZoU (h:Xn U hp hp') {x:AV} (hx:∀ id∈Zn x,U id):Zcw hp x=Zcw hp' x:=by
 cases x<;>simp only[Zcw]
 case own id=>rw[h.same id (hx id (by simp[Zn]))]
theorem Zi6 (h:Xn U hp hp'):∀ {xs:List AV},(∀ id∈xs.flatMap Zn,U id)→WP hp xs=WP hp' xs
 | [],_=>rfl
 | x :: xs,hx=>by
  simp only[WP];rw[ZoU h fun id aa=>hx id (by simp only[KK,Kg];exact .inl aa),Zi6 h (xs:=xs) fun id aa=>hx id (by simp only[KK,Kg];exact .inr aa)]
theorem ZuG (h:Xn U hp hp') {x:AV} (hx:InU U x) (slc:List (Option Nat)) (s base:Nat) (vs:List AV) (hv:∀ id∈vs.flatMap Zn,U id):Zbm hp slc s base vs x=Zbm hp' slc s base vs x:=by
 cases x<;>simp only[Zbm]
 case ptr id off=>rw[h.same id (hx id (by simp[ZC,ZD,Zn]))]
 case prow id sz i off=>
  rw[h.same id (hx id (by simp[ZC,ZD,Zn]))];unfold ZdI;rw[Zi6 h hv]
theorem Zv6 {x:AV} (hx:InU U x):∀ id∈x.cells.flatMap Zn,U id:=by
 intro id aa;refine hx id ?_;cases x<;>simp only[AV.cells] at aa<;>first
  | (simp[Zn] at aa;done)
  | (obtain⟨c,hc,ab⟩:=Ky.1 aa;obtain⟨y,_,rfl⟩:=La.1 hc;simp[Zn] at ab;done)
  | (simpa [ZC,ZD,Zn] using aa)
theorem ZxB (h:Xn U hp hp') {x:AV} (hx:InU U x):give hp x=give hp' x:=by
 cases x with
 | agg cs=>simp only[give];rw[Zi6 h hx]
 | own id=>exact ZoU h (x:=.own id) hx
 | _=>rfl
theorem Zk4 (h:Xn U hp hp'):∀ {xs:List AV},(∀ x∈xs,InU U x)→UI hp xs=UI hp' xs
 | [],_=>rfl
 | x :: xs,hx=>by
  simp only[UI];rw[ZxB h (hx x (by simp)),Zk4 h (xs:=xs) fun y hy=>hx y (KB _ hy)]
theorem ZgQ (h:Xn U hp hp') {x:AV} (hx:∀ id∈Zn x,U id):Zj7 hp x=Zj7 hp' x:=by
 cases x<;>simp only[Zj7]
 case own id=>rw[h.same id (hx id (by simp[Zn]))]
 case ownv id off n=>rw[h.same id (hx id (by simp[Zn]))]
theorem Zq5 (h:Xn U hp hp'):∀ {xs:List AV},(∀ id∈xs.flatMap Zn,U id)→QM (Zj7 hp) xs=QM (Zj7 hp') xs
 | [],_=>rfl
 | x :: xs,hx=>by
  simp only[QM];rw[ZgQ h fun id aa=>hx id (by simp only[KK,Kg];exact .inl aa),Zq5 h (xs:=xs) fun id aa=>hx id (by simp only[KK,Kg];exact .inr aa)]
theorem Ztx (h:Xn U hp hp') {x:AV} (hx:InU U x):toD hp x=toD hp' x:=by
 cases x with
 | agg cs=>simp only[toD];rw[Zq5 h hx]
 | own id=>exact ZgQ h (x:=.own id) hx
 | ownv id off n=>exact ZgQ h (x:=.ownv id off n) hx
 | _=>rfl
theorem ZxC (h:Xn U hp hp') (m:Bool) {x:AV} (hx:InU U x):ZeX hp m x=ZeX hp' m x:=by
 cases x with
 | own id=>
  simp only[ZeX];cases m
  ·simp only[ZgV];rw[ZgQ h (x:=.own id) hx]
  ·rfl
 | agg cs=>simp only[ZeX];rw[Ztx h hx]
 | ownv id off n=>simp only[ZeX];rw[Ztx h hx]
 | _=>rfl
theorem Zq6 (h:Xn U hp hp') (m:Nat→Bool):∀ {xs:List AV} (i:Nat),(∀ x∈xs,InU U x)→args hp m i xs=args hp' m i xs
 | [],i,_=>rfl
 | x :: xs,i,hx=>by
  simp only[args];rw[ZxC h (m i) (hx x (by simp)),Zq6 h m (xs:=xs) (i+1) fun y hy=>hx y (KB _ hy)]
theorem ZCh {m:Bool} {x y:AV} (hx:InU U x) (h:ZeX hp m x=some y):InU U y:=by
 unfold ZeX at h;split at h
 ·cases h;exact hx
 ·cases h;exact hx
 ·cases h;exact hx
 ·cases h;exact hx
 ·cases h;exact hx
 ·rename_i id;cases m
  ·simp only[ZgV,asD] at h;obtain⟨d,_,h⟩:=Za h;cases h;exact fun id aa=>by simp[ZC,ZD,Zn] at aa
  ·simp only[ZgV] at h;cases h;exact hx
 ·cases m
  ·simp only[Zji] at h;cases h;exact fun id aa=>by simp[ZC,ZD,Zn] at aa
  ·simp only[Zji] at h;cases h;exact hx
 ·cases h;exact hx
 ·obtain⟨d,_,h⟩:=Za h;cases h;exact fun id aa=>by simp[ZC,ZD,Zn] at aa
theorem ZyO {m:Nat→Bool}:∀ {xs ys:List AV} (i:Nat),(∀ x∈xs,InU U x)→args hp m i xs=some ys→∀ y∈ys,InU U y
 | [],ys,i,_,h=>by simp only[args] at h;cases h;simp
 | x :: xs,ys,i,hx,h=>by
  simp only[args] at h;obtain⟨y,h1,h⟩:=Za h;obtain⟨aa,h2,h⟩:=Za h;cases h;intro z hz;rcases Ke.1 hz with rfl | hz
  ·exact ZCh (hx x (by simp)) h1
  ·exact ZyO (i+1) (fun y hy=>hx y (by simp[hy])) h2 z hz
theorem Zeh (h:Xn U hp hp'):∀ (n:Nat) (todo aa:List Nat),(∀ i∈todo,U i)→QQ hp n todo aa=QQ hp' n todo aa
 | 0,todo,aa,_=>by simp only[QQ]
 | n+1,[],aa,_=>by simp only[QQ]
 | n+1,id :: todo,aa,ht=>by
  simp only[QQ];rw[Zeh h n todo aa fun i hi=>ht i (by simp[hi])];rw[← h.same id (ht id (by simp))];cases hl:lkp hp id with
  | none=>simp only[ZaO];rw[Zeh h n todo aa fun i hi=>ht i (by simp[hi])]
  | some o=>
   simp only[ZaO];rw[Zeh h n (todo++ZbY o) (aa++[id]) fun i hi=>by
    rcases Kg.1 hi with hi | hi
    ·exact ht i (by simp[hi])
    ·exact h.closed id o (ht id (by simp)) hl i hi]
theorem ZmM (h:Xn U hp hp'):∀ (n:Nat) (todo aa:List Nat),(∀ i∈todo,U i)→(∀ i∈aa,U i)→∀ i∈QQ hp n todo aa,U i
 | 0,todo,aa,_,ha=>by simp only[QQ];exact ha
 | n+1,[],aa,_,ha=>by simp only[QQ];exact ha
 | n+1,id :: todo,aa,ht,ha=>by
  simp only[QQ];split
  ·exact ZmM h n todo aa (fun i hi=>ht i (by simp[hi])) ha
  ·cases hl:lkp hp id with
   | none=>simp only[ZaO];exact ZmM h n todo aa (fun i hi=>ht i (by simp[hi])) ha
   | some o=>
    simp only[ZaO];refine ZmM h n (todo++ZbY o) (aa++[id]) (fun i hi=>?_) fun i hi=>?_
    ·rcases Kg.1 hi with hi | hi
     ·exact ht i (by simp[hi])
     ·exact h.closed id o (ht id (by simp)) hl i hi
    ·rcases Kg.1 hi with hi | hi
     ·exact ha i hi
     ·simp at hi;subst hi;exact ht i (by simp)
theorem Zq7 (h:Xn U hp hp'):∀ {ids:List Nat},(∀ i∈ids,U i)→ZdL hp ids=ZdL hp' ids
 | [],_=>rfl
 | i :: ids,hi=>by simp only[ZdL,h.same i (hi i (by simp)),Zq7 h (ids:=ids) fun j hj=>hi j (KB _ hj)]
theorem Zq8 (h:Xn U hp hp') {base:Nat} {ids aa:List Nat} (hi:∀ i∈ids,U i) (hl:∀ i∈aa,U i) (r:AV) (out:List Zm):ZaQ hp base ids aa r out=ZaQ hp' base ids aa r out:=by
 unfold ZaQ;have:(ids.filter fun i=>Vi (lkp hp i))=ids.filter fun i=>Vi (lkp hp' i):=List.filter_congr fun i hm=>by rw[h.same i (hi i hm)]
 have h2:∀ {l:List Nat},(∀ i∈l,U i)→(l.any fun i=>Zci (lkp hp i))=l.any fun i=>Zci (lkp hp' i):=by
  intro l
  induction l with
  | nil=>intro _;rfl
  | cons i l ih=>intro hl;simp only[List.any_cons];rw[h.same i (hl i (by simp)),ih fun k hk=>hl k (by simp[hk])]
 rw[this,h2 hl]
theorem ZA9 (x:AV):∀ i∈Zcv x,i∈Zn x:=by
 intro i hi;cases x<;>simp only[Zcv,Zn] at hi ⊢ <;> first | exact hi | (simp at hi)
theorem ZzI (x:AV):∀ i∈ZgJ x,i∈ZC x:=by
 intro i hi;cases x with
 | agg cs=>
  obtain⟨c,hc,hi⟩:=Ky.1 hi;exact Ky.2 ⟨c,hc,ZA9 c i hi⟩
 | own id=>exact hi
 | ownv id a b=>exact hi
 | _=>simp[ZgJ,Zcv] at hi
theorem Zty:∀ {xs ys:List AV},(∀ x∈xs,InU U x)→∀ i∈Vf xs ys,U i
 | [],ys,_,i,hi=>by cases ys<;>simp[Vf] at hi
 | x :: xs,[],_,i,hi=>by simp[Vf] at hi
 | x :: xs,y :: ys,hx,i,hi=>by
  have ih:=Zty (ys:=ys) fun z hz=>hx z (KB _ hz);cases y<;>simp only[Vf] at hi<;>first | exact ih i hi | skip
  rcases Kg.1 hi with hi | hi
  ·exact hx x (by simp) i (ZzI x i hi)
  ·exact ih i hi
theorem Zk5 (h:Xn U hp hp') (rs:List Nat):∀ {ids:List Nat},(∀ i∈ids,U i)→ZcP hp rs ids=ZcP hp' rs ids
 | [],_=>rfl
 | i :: ids,hi=>by
  have ih:=Zk5 h rs (ids:=ids) fun k hk=>hi k (by simp[hk]);simp only[ZcP,Lq] at ih ⊢;rw[ih,h.1 i (hi i (by simp))]
theorem Zv7 (h:Xn U hp hp') (C:Orc) (m:Nat→Bool) (base f:Nat) {ab:List AV} (hx:∀ x∈ab,InU U x):Zcy C m hp base f ab=Zcy C m hp' base f ab:=by
 unfold Zcy;rw[← Zq6 h m 0 hx];cases ha:args hp m 0 ab with
 | none=>rfl
 | some as=>
  simp only[bnd];have ad:=ZyO 0 hx ha;have ht:∀ i∈as.flatMap ZC,U i:=fun i hi=>by
   obtain⟨y,hy,hi⟩:=Ky.1 hi;exact ad y hy i hi
  have hf:Xh hp=Xh hp':=rfl;rw[hf,← Zeh h (Xh hp') (as.flatMap ZC) [] ht];have aa:=ZmM h (Xh hp') (as.flatMap ZC) [] ht (by simp);unfold Zek;rw[Zq7 h aa,Zk5 h _ aa];congr 1
  congr 1
  funext q
  exact Zq8 h aa (Zty hx) q.1 q.2
theorem clo_in {f:Nat} {aa:List AV} (h:InU U (.clo f aa)):∀ x∈aa,x.atom=true→InU U x:=by
 intro x hx ha id ab;refine h id (Ky.2 ⟨x,hx,?_⟩);cases x<;>first | exact ab | (simp[AV.atom] at ha)
end
end Go.Abs
