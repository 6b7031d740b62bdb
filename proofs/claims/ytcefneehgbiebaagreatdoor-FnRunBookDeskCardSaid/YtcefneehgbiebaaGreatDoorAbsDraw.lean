/- Own text. -/
import Derived.Test.YtcefneehgbiebaaGreatDoorAbsSound2
set_option linter.unusedVariables false
set_option linter.unusedSimpArgs false
namespace Go.Abs
open Go
theorem ZeV {sl sl' : Sl}:∀ {xs:List Opd},(∀ x∈xs,evO sl x=evO sl' x)→evL sl xs=evL sl' xs
 | [],_=>rfl
 | x :: xs,h=>by simp only[evL,h x (by simp),ZeV (xs:=xs) fun y hy=>h y (KA _ hy)]
theorem Zsw {sl sl' : Sl}:∀ {xs:List (Nat×Nat×Opd)},(∀ x∈xs.map (fun q=>q.2.2),evO sl x=evO sl' x)→evP sl xs=evP sl' xs
 | [],_=>rfl
 | (a,b,x) :: xs,h=>by simp only[evP,h x (by simp),Zsw (xs:=xs) fun y hy=>h y (by simp only[Kj,Kd];exact .inr hy)]
theorem Zh0 {sl sl' : Sl} {x:Option Opd} (h:∀ y∈Zm8 x,evO sl y=evO sl' y):evM sl x=evM sl' x:=by
 cases x with
 | none=>rfl
 | some y=>simp only[evM,h y (by simp[Zm8])]
theorem Xl (C:Orc) (M:Zp) {sl sl' : Sl} (hp:Hp) (base:Nat):∀ {c:COp},(∀ x∈ZL c,evO sl x=evO sl' x)→vop C M sl hp base c=vop C M sl' hp base c:=by
 intro c h;cases c<;>simp only[ZL] at h<;>simp only[vop]
 case move x=>rw[h x (by simp)]
 case assign s x=>rw[h x (by simp)]
 case pick c a b=>rw[h c (by simp),h a (by simp),h b (by simp)]
 case box x=>rw[h x (by simp)]
 case build zs ps=>rw[Zsw h]
 case buildSl s xs=>rw[ZeV h]
 case load g s a=>rw[h a (by simp)]
 case store slc s a x=>rw[h a (by simp),h x (by simp)]
 case nilCheck x=>rw[h x (by simp)]
 case bin op eq x y=>rw[h x (by simp),h y (by simp)]
 case un op x=>rw[h x (by simp)]
 case eqA neg n x y=>rw[h x (by simp),h y (by simp)]
 case convI k x=>rw[h x (by simp)]
 case convS x=>rw[h x (by simp)]
 case fn f cs=>rw[ZeV h]
 case make s b z l c=>rw[h l (by simp),h c (by simp)]
 case slice s x lo hi=>rw[h x (by simp),Zh0 fun y hy=>h y (by simp[hy]),Zh0 (x:=hi) fun y hy=>h y (by simp[hy])]
 case sliceS x lo hi=>rw[h x (by simp),Zh0 fun y hy=>h y (by simp[hy]),Zh0 (x:=hi) fun y hy=>h y (by simp[hy])]
 case slice0 x hi mx=>rw[h x (by simp),h hi (by simp),h mx (by simp)]
 case shift off x=>rw[h x (by simp)]
 case part g s off x=>rw[h x (by simp)]
 case iaS s x i=>rw[h x (by simp),h i (by simp)]
 case iaA len s x i=>rw[h x (by simp),h i (by simp)]
 case ixS x i=>rw[h x (by simp),h i (by simp)]
 case ixA g s len x i=>rw[h x (by simp),h i (by simp)]
 case nth i x=>rw[h x (by simp)]
 case len x=>rw[h x (by simp)]
 case lenS x=>rw[h x (by simp)]
 case append s b str flat x y=>rw[h x (by simp),h y (by simp)]
 case min x y=>rw[h x (by simp),h y (by simp)]
 case max x y=>rw[h x (by simp),h y (by simp)]
 case slice3 s x lo hi mx=>rw[h x (by simp),h lo (by simp),h hi (by simp),h mx (by simp)]
 case clear s z x=>rw[h x (by simp)]
 case buildDp s n xs=>rw[ZeV h]
 case appDp s b f x y=>rw[h x (by simp),h y (by simp)]
 case asgDp s n x=>rw[h x (by simp)]
 case call f as=>rw[h f (by simp),ZeV (xs:=as) fun y hy=>h y (KA _ hy)]
section
variable {U:Nat→Prop} {hp hp' : Hp}
structure Xm (U:Nat→Prop) (hp hp' : Hp):Prop where
 same:∀ id,U id→lkp hp id=lkp hp' id
 closed:∀ id o,U id→lkp hp id=some o→∀ i∈ZbH o,U i
def InU (U:Nat→Prop) (x:AV):Prop:=∀ id∈ZD x,U id
theorem Zvi (h:Xm U hp hp') {x:AV} (hx:InU U x) (g:Bool) (s:Nat):UV hp g s x=UV hp' g s x:=by
 cases x<;>simp only[UV]
 case ptr id off=>rw[h.same id (hx id (by simp[ZD,ZE,Zn]))]
 case prow id sz i off=>rw[h.same id (hx id (by simp[ZD,ZE,Zn]))]
theorem Zle (h:Xm U hp hp') {x:AV} (hx:InU U x) (sz n:Nat):QB hp sz n x=QB hp' sz n x:=by
 cases x<;>simp only[QB]
 case d x=>cases x<;>rfl
 case own id=>rw[h.same id (hx id (by simp[ZD,ZE,Zn]))]
 case ownv id off m=>rw[h.same id (hx id (by simp[ZD,ZE,Zn]))]
theorem ZtO (h:Xm U hp hp') {x:AV} (hx:InU U x) (s:Nat) (lo hi:Option AV):WA hp s lo hi x=WA hp' s lo hi x:=by
 cases x<;>simp only[WA]
 case d x=>cases x<;>rfl
 case own id=>rw[h.same id (hx id (by simp[ZD,ZE,Zn]))]
 case ownv id off m=>rw[h.same id (hx id (by simp[ZD,ZE,Zn]))]
theorem Zi7 (h:Xm U hp hp') {x:AV} (hx:InU U x):Zef hp x=Zef hp' x:=by
 cases x<;>simp only[Zef]
 case d x=>cases x<;>rfl
 case own id=>rw[h.same id (hx id (by simp[ZD,ZE,Zn]))]
theorem ZtP (h:Xm U hp hp') {x:AV} (hx:InU U x) (s:Nat) (z:D):Zei hp s z x=Zei hp' s z x:=by
 cases x<;>simp only[Zei]
 case ownv id off m=>rw[h.same id (hx id (by simp[ZD,ZE,Zn]))]
theorem Zms (h:Xm U hp hp') {x:AV} (hx:InU U x) (flat:Bool):Ze4 hp flat x=Ze4 hp' flat x:=by
 cases x<;>simp only[Ze4]
 case d x=>cases x<;>rfl
 case own id=>rw[h.same id (hx id (by simp[ZD,ZE,Zn]))]
 case ownv id off m=>rw[h.same id (hx id (by simp[ZD,ZE,Zn]))]
theorem Zvj (h:Xm U hp hp') {x:AV} (hx:InU U x) (sz b base:Nat) (aa:List Nat) (ys:List D) (ex:Bool):Zg8 hp sz b base aa ys ex x=Zg8 hp' sz b base aa ys ex x:=by
 cases x<;>simp only[Zg8]
 case own id=>rw[h.same id (hx id (by simp[ZD,ZE,Zn]))]
 case ownv id off m=>rw[h.same id (hx id (by simp[ZD,ZE,Zn]))]
theorem Zq4 (h:Xm U hp hp') {x:AV} (hx:InU U x):Zd1 hp x=Zd1 hp' x:=by
 cases x<;>simp only[Zd1]
 case own id=>rw[h.same id (hx id (by simp[ZD,ZE,Zn]))]
theorem Zq5 (h:Xm U hp hp') {x:AV} (hx:InU U x) (s b base id n:Nat) (ys:List D):Zcz hp s b base id n ys x=Zcz hp' s b base id n ys x:=by
 cases x<;>simp only[Zcz]
 case own k=>rw[h.same k (hx k (by simp[ZD,ZE,Zn]))]
theorem ZiE (h:Xm U hp hp') {x y:AV} (hx:InU U x) (hy:InU U y) (s b:Nat) (str flat:Bool) (base:Nat):Ui hp s b str flat base x y=Ui hp' s b str flat base x y:=by
 unfold Ui;rw[Zms h hy];congr 1
 funext q
 rw[Zvj h hx]
theorem ZjY (h:Xm U hp hp') {x:AV} (hx:InU U x):YC hp x=YC hp' x:=by
 cases x<;>simp only[YC]
 case own id=>rw[h.same id (hx id (by simp[ZD,ZE,Zn]))]
theorem ZtQ (h:Xm U hp hp') (ids:List Nat):Xm U (meltIn hp ids) (meltIn hp' ids):=by
 refine⟨fun id aa=>by rw[Jx,Jx,h.same id aa],fun id o aa hl=>?_⟩;rw[Jx] at hl;cases hl0:lkp hp id with
 | none=>rw[hl0] at hl;cases hl
 | some o0=>
  rw[hl0] at hl;simp only[KI,Option.some.injEq] at hl;subst hl;have:=h.closed id o0 aa hl0;split
  ·cases o0<;>exact this
  ·exact this
theorem Zq6 (h:Xm U hp hp') {x y:AV} (hx:InU U x) (hy:InU U y) (s b:Nat) (str flat:Bool) (base:Nat) (ms:List Nat):VS hp s b str flat base x y ms=VS hp' s b str flat base x y ms:=by
 cases ms with
 | nil=>exact ZiE h hx hy s b str flat base
 | cons i r=>simp only[VS];rw[ZiE (ZtQ h (i :: r)) hx hy]
theorem Zvk (h:Xm U hp hp') {x y:AV} (hx:InU U x) (hy:InU U y) (s b:Nat) (str flat:Bool) (base:Nat):Ze6 hp s b str flat base y x=Ze6 hp' s b str flat base y x:=by
 cases x<;>simp only[Ze6]<;>first | (rw[ZjY h hx,ZjY h hy];exact Zq6 h hx hy s b str flat base _) | skip
 rename_i id nm;rw[Zms h hy,h.same id (hx id (by simp[ZD,ZE,Zn]))]
theorem Zw8 (h:Xm U hp hp') {x y:AV} (hx:InU U x) (hy:InU U y) (s b base:Nat):Zre hp s b base x y=Zre hp' s b base x y:=by
 unfold Zre;rw[Zq4 h hy];congr 2
 funext q
 rw[Zq5 h hx]
theorem Zvl (h:Xm U hp hp') {n:Nat} {x:AV} (hx:∀ id∈Zn x,U id):Zd0 hp n x=Zd0 hp' n x:=by
 cases x<;>simp only[Zd0]
 case own id=>rw[h.same id (hx id (by simp[Zn]))]
theorem Zmt (h:Xm U hp hp') {n:Nat}:∀ {xs:List AV},(∀ id∈xs.flatMap Zn,U id)→Ze5 hp n xs=Ze5 hp' n xs
 | [],_=>rfl
 | x :: xs,hx=>by
  simp only[Ze5];rw[Zvl h fun id aa=>hx id (by simp only[KJ,Kg];exact .inl aa),Zmt h (xs:=xs) fun id aa=>hx id (by simp only[KJ,Kg];exact .inr aa)]
theorem Zq7 (h:Xm U hp hp') {base s n:Nat} {xs:List AV} (hx:∀ x∈xs,InU U x):buildDp hp base s n xs=buildDp hp' base s n xs:=by
 cases xs with
 | nil=>rfl
 | cons x xs=>
  cases xs with
  | cons y ys=>cases x<;>rfl
  | nil=>
   cases x<;>simp only[buildDp]
   rename_i cs;rw[Zmt h (hx (.agg cs) (by simp))]
theorem Zmu (h:Xm U hp hp') {x:AV} (hx:∀ id∈Zn x,U id):Zcl hp x=Zcl hp' x:=by
 cases x<;>simp only[Zcl]
 case own id=>rw[h.same id (hx id (by simp[Zn]))]
theorem ZgY (h:Xm U hp hp'):∀ {xs:List AV},(∀ id∈xs.flatMap Zn,U id)→WF hp xs=WF hp' xs
 | [],_=>rfl
 | x :: xs,hx=>by
  simp only[WF];rw[Zmu h fun id aa=>hx id (by simp only[KJ,Kg];exact .inl aa),ZgY h (xs:=xs) fun id aa=>hx id (by simp only[KJ,Kg];exact .inr aa)]
theorem ZtR (h:Xm U hp hp') {x:AV} (hx:InU U x) (slc:List (Option Nat)) (s base:Nat) (vs:List AV) (hv:∀ id∈vs.flatMap Zn,U id):Za7 hp slc s base vs x=Za7 hp' slc s base vs x:=by
 cases x<;>simp only[Za7]
 case ptr id off=>rw[h.same id (hx id (by simp[ZD,ZE,Zn]))]
 case prow id sz i off=>
  rw[h.same id (hx id (by simp[ZD,ZE,Zn]))];unfold Zc3;rw[ZgY h hv]
theorem Zvm {x:AV} (hx:InU U x):∀ id∈x.cells.flatMap Zn,U id:=by
 intro id aa;refine hx id ?_;cases x<;>simp only[AV.cells] at aa<;>first
  | (simp[Zn] at aa;done)
  | (obtain⟨c,hc,ab⟩:=Ky.1 aa;obtain⟨y,_,rfl⟩:=Ld.1 hc;simp[Zn] at ab;done)
  | (simpa [ZD,ZE,Zn] using aa)
theorem Zw9 (h:Xm U hp hp') {x:AV} (hx:InU U x):give hp x=give hp' x:=by
 cases x with
 | agg cs=>simp only[give];rw[ZgY h hx]
 | own id=>exact Zmu h (x:=.own id) hx
 | _=>rfl
theorem ZiF (h:Xm U hp hp'):∀ {xs:List AV},(∀ x∈xs,InU U x)→Ug hp xs=Ug hp' xs
 | [],_=>rfl
 | x :: xs,hx=>by
  simp only[Ug];rw[Zw9 h (hx x (by simp)),ZiF h (xs:=xs) fun y hy=>hx y (KA _ hy)]
theorem ZfH (h:Xm U hp hp') {x:AV} (hx:∀ id∈Zn x,U id):Ziu hp x=Ziu hp' x:=by
 cases x<;>simp only[Ziu]
 case own id=>rw[h.same id (hx id (by simp[Zn]))]
 case ownv id off n=>rw[h.same id (hx id (by simp[Zn]))]
theorem Zow (h:Xm U hp hp'):∀ {xs:List AV},(∀ id∈xs.flatMap Zn,U id)→QG (Ziu hp) xs=QG (Ziu hp') xs
 | [],_=>rfl
 | x :: xs,hx=>by
  simp only[QG];rw[ZfH h fun id aa=>hx id (by simp only[KJ,Kg];exact .inl aa),Zow h (xs:=xs) fun id aa=>hx id (by simp only[KJ,Kg];exact .inr aa)]
theorem Zsx (h:Xm U hp hp') {x:AV} (hx:InU U x):toD hp x=toD hp' x:=by
 cases x with
 | agg cs=>simp only[toD];rw[Zow h hx]
 | own id=>exact ZfH h (x:=.own id) hx
 | ownv id off n=>exact ZfH h (x:=.ownv id off n) hx
 | _=>rfl
theorem Zxa (h:Xm U hp hp') (m:Bool) {x:AV} (hx:InU U x):Zej hp m x=Zej hp' m x:=by
 cases x with
 | own id=>
  simp only[Zej];cases m
  ·simp only[ZfL];rw[ZfH h (x:=.own id) hx]
  ·rfl
 | agg cs=>simp only[Zej];rw[Zsx h hx]
 | ownv id off n=>simp only[Zej];rw[Zsx h hx]
 | _=>rfl
theorem Zox (h:Xm U hp hp') (m:Nat→Bool):∀ {xs:List AV} (i:Nat),(∀ x∈xs,InU U x)→args hp m i xs=args hp' m i xs
 | [],i,_=>rfl
 | x :: xs,i,hx=>by
  simp only[args];rw[Zxa h (m i) (hx x (by simp)),Zox h m (xs:=xs) (i+1) fun y hy=>hx y (KA _ hy)]
theorem ZCc {m:Bool} {x y:AV} (hx:InU U x) (h:Zej hp m x=some y):InU U y:=by
 unfold Zej at h;split at h
 ·cases h;exact hx
 ·cases h;exact hx
 ·cases h;exact hx
 ·cases h;exact hx
 ·cases h;exact hx
 ·rename_i id;cases m
  ·simp only[ZfL,asD] at h;obtain⟨d,_,h⟩:=Za h;cases h;exact fun id aa=>by simp[ZD,ZE,Zn] at aa
  ·simp only[ZfL] at h;cases h;exact hx
 ·cases m
  ·simp only[Zha] at h;cases h;exact fun id aa=>by simp[ZD,ZE,Zn] at aa
  ·simp only[Zha] at h;cases h;exact hx
 ·cases h;exact hx
 ·obtain⟨d,_,h⟩:=Za h;cases h;exact fun id aa=>by simp[ZD,ZE,Zn] at aa
theorem Zyy {m:Nat→Bool}:∀ {xs ys:List AV} (i:Nat),(∀ x∈xs,InU U x)→args hp m i xs=some ys→∀ y∈ys,InU U y
 | [],ys,i,_,h=>by simp only[args] at h;cases h;simp
 | x :: xs,ys,i,hx,h=>by
  simp only[args] at h;obtain⟨y,h1,h⟩:=Za h;obtain⟨aa,h2,h⟩:=Za h;cases h;intro z hz;rcases Kd.1 hz with rfl | hz
  ·exact ZCc (hx x (by simp)) h1
  ·exact Zyy (i+1) (fun y hy=>hx y (by simp[hy])) h2 z hz
theorem ZdU (h:Xm U hp hp'):∀ (n:Nat) (todo aa:List Nat),(∀ i∈todo,U i)→QM hp n todo aa=QM hp' n todo aa
 | 0,todo,aa,_=>by simp only[QM]
 | n+1,[],aa,_=>by simp only[QM]
 | n+1,id :: todo,aa,ht=>by
  simp only[QM];rw[ZdU h n todo aa fun i hi=>ht i (by simp[hi])];rw[← h.same id (ht id (by simp))];cases hl:lkp hp id with
  | none=>simp only[J6];rw[ZdU h n todo aa fun i hi=>ht i (by simp[hi])]
  | some o=>
   simp only[J6];rw[ZdU h n (todo++ZbH o) (aa++[id]) fun i hi=>by
    rcases Kg.1 hi with hi | hi
    ·exact ht i (by simp[hi])
    ·exact h.closed id o (ht id (by simp)) hl i hi]
theorem ZjZ (h:Xm U hp hp'):∀ (n:Nat) (todo aa:List Nat),(∀ i∈todo,U i)→(∀ i∈aa,U i)→∀ i∈QM hp n todo aa,U i
 | 0,todo,aa,_,ha=>by simp only[QM];exact ha
 | n+1,[],aa,_,ha=>by simp only[QM];exact ha
 | n+1,id :: todo,aa,ht,ha=>by
  simp only[QM];split
  ·exact ZjZ h n todo aa (fun i hi=>ht i (by simp[hi])) ha
  ·cases hl:lkp hp id with
   | none=>simp only[J6];exact ZjZ h n todo aa (fun i hi=>ht i (by simp[hi])) ha
   | some o=>
    simp only[J6];refine ZjZ h n (todo++ZbH o) (aa++[id]) (fun i hi=>?_) fun i hi=>?_
    ·rcases Kg.1 hi with hi | hi
     ·exact ht i (by simp[hi])
     ·exact h.closed id o (ht id (by simp)) hl i hi
    ·rcases Kg.1 hi with hi | hi
     ·exact ha i hi
     ·simp at hi;subst hi;exact ht i (by simp)
theorem Zoy (h:Xm U hp hp'):∀ {ids:List Nat},(∀ i∈ids,U i)→Zc6 hp ids=Zc6 hp' ids
 | [],_=>rfl
 | i :: ids,hi=>by simp only[Zc6,h.same i (hi i (by simp)),Zoy h (ids:=ids) fun j hj=>hi j (KA _ hj)]
theorem Zoz (h:Xm U hp hp') {base:Nat} {ids aa:List Nat} (hi:∀ i∈ids,U i) (hl:∀ i∈aa,U i) (r:AV) (out:List Zm):J8 hp base ids aa r out=J8 hp' base ids aa r out:=by
 unfold J8;have:(ids.filter fun i=>Vb (lkp hp i))=ids.filter fun i=>Vb (lkp hp' i):=List.filter_congr fun i hm=>by rw[h.same i (hi i hm)]
 have h2:∀ {l:List Nat},(∀ i∈l,U i)→(l.any fun i=>Zb2 (lkp hp i))=l.any fun i=>Zb2 (lkp hp' i):=by
  intro l
  induction l with
  | nil=>intro _;rfl
  | cons i l ih=>intro hl;simp only[List.any_cons];rw[h.same i (hl i (by simp)),ih fun k hk=>hl k (by simp[hk])]
 rw[this,h2 hl]
theorem ZAP (x:AV):∀ i∈Zck x,i∈Zn x:=by
 intro i hi;cases x<;>simp only[Zck,Zn] at hi ⊢ <;> first | exact hi | (simp at hi)
theorem Zzo (x:AV):∀ i∈ZfB x,i∈ZD x:=by
 intro i hi;cases x with
 | agg cs=>
  obtain⟨c,hc,hi⟩:=Ky.1 hi;exact Ky.2 ⟨c,hc,ZAP c i hi⟩
 | own id=>exact hi
 | ownv id a b=>exact hi
 | _=>simp[ZfB,Zck] at hi
theorem Zsy:∀ {xs ys:List AV},(∀ x∈xs,InU U x)→∀ i∈YY xs ys,U i
 | [],ys,_,i,hi=>by cases ys<;>simp[YY] at hi
 | x :: xs,[],_,i,hi=>by simp[YY] at hi
 | x :: xs,y :: ys,hx,i,hi=>by
  have ih:=Zsy (ys:=ys) fun z hz=>hx z (KA _ hz);cases y<;>simp only[YY] at hi<;>first | exact ih i hi | skip
  rcases Kg.1 hi with hi | hi
  ·exact hx x (by simp) i (Zzo x i hi)
  ·exact ih i hi
theorem ZiG (h:Xm U hp hp') (rs:List Nat):∀ {ids:List Nat},(∀ i∈ids,U i)→Zcy hp rs ids=Zcy hp' rs ids
 | [],_=>rfl
 | i :: ids,hi=>by
  have ih:=ZiG h rs (ids:=ids) fun k hk=>hi k (by simp[hk]);simp only[Zcy,Lr] at ih ⊢;rw[ih,h.1 i (hi i (by simp))]
theorem Zvn (h:Xm U hp hp') (C:Orc) (m:Nat→Bool) (base f:Nat) {ab:List AV} (hx:∀ x∈ab,InU U x):Zcn C m hp base f ab=Zcn C m hp' base f ab:=by
 unfold Zcn;rw[← Zox h m 0 hx];cases ha:args hp m 0 ab with
 | none=>rfl
 | some as=>
  simp only[bnd];have ad:=Zyy 0 hx ha;have ht:∀ i∈as.flatMap ZD,U i:=fun i hi=>by
   obtain⟨y,hy,hi⟩:=Ky.1 hi;exact ad y hy i hi
  have hf:Xd hp=Xd hp':=rfl;rw[hf,← ZdU h (Xd hp') (as.flatMap ZD) [] ht];have aa:=ZjZ h (Xd hp') (as.flatMap ZD) [] ht (by simp);unfold ZdY;rw[Zoy h aa,ZiG h _ aa];congr 1
  congr 1
  funext q
  exact Zoz h aa (Zsy hx) q.1 q.2
theorem clo_in {f:Nat} {aa:List AV} (h:InU U (.clo f aa)):∀ x∈aa,x.atom=true→InU U x:=by
 intro x hx ha id ab;refine h id (Ky.2 ⟨x,hx,?_⟩);cases x<;>first | exact ab | (simp[AV.atom] at ha)
end
end Go.Abs
