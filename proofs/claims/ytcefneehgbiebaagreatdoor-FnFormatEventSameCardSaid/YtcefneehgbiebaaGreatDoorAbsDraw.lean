/- Own text. -/
import Derived.Test.YtcefneehgbiebaaGreatDoorAbsSound2
set_option linter.unusedVariables false
set_option linter.unusedSimpArgs false
namespace Go.Abs
open Go
theorem Zej {sl sl' : Sl}:∀ {xs:List Opd},(∀ x∈xs,evO sl x=evO sl' x)→evL sl xs=evL sl' xs
 | [],_=>rfl
 | x :: xs,h=>by simp only[evL,h x (by simp),Zej (xs:=xs) fun y hy=>h y (Kz _ hy)]
theorem Zrv {sl sl' : Sl}:∀ {xs:List (Nat×Nat×Opd)},(∀ x∈xs.map (fun q=>q.2.2),evO sl x=evO sl' x)→evP sl xs=evP sl' xs
 | [],_=>rfl
 | (a,b,x) :: xs,h=>by simp only[evP,h x (by simp),Zrv (xs:=xs) fun y hy=>h y (by simp only[Kj,Kf];exact .inr hy)]
theorem Zhr {sl sl' : Sl} {x:Option Opd} (h:∀ y∈Zmk x,evO sl y=evO sl' y):evM sl x=evM sl' x:=by
 cases x with
 | none=>rfl
 | some y=>simp only[evM,h y (by simp[Zmk])]
theorem Xg (C:Orc) (M:Zn) {sl sl' : Sl} (hp:Hp) (base:Nat):∀ {c:COp},(∀ x∈ZI c,evO sl x=evO sl' x)→vop C M sl hp base c=vop C M sl' hp base c:=by
 intro c h;cases c<;>simp only[ZI] at h<;>simp only[vop]
 case move x=>rw[h x (by simp)]
 case assign s x=>rw[h x (by simp)]
 case pick c a b=>rw[h c (by simp),h a (by simp),h b (by simp)]
 case box x=>rw[h x (by simp)]
 case build zs ps=>rw[Zrv h]
 case buildSl s xs=>rw[Zej h]
 case load g s a=>rw[h a (by simp)]
 case store slc s a x=>rw[h a (by simp),h x (by simp)]
 case nilCheck x=>rw[h x (by simp)]
 case bin op eq x y=>rw[h x (by simp),h y (by simp)]
 case un op x=>rw[h x (by simp)]
 case eqA neg n x y=>rw[h x (by simp),h y (by simp)]
 case convI k x=>rw[h x (by simp)]
 case convS x=>rw[h x (by simp)]
 case fn f cs=>rw[Zej h]
 case make s b z l c=>rw[h l (by simp),h c (by simp)]
 case slice s x lo hi=>rw[h x (by simp),Zhr fun y hy=>h y (by simp[hy]),Zhr (x:=hi) fun y hy=>h y (by simp[hy])]
 case sliceS x lo hi=>rw[h x (by simp),Zhr fun y hy=>h y (by simp[hy]),Zhr (x:=hi) fun y hy=>h y (by simp[hy])]
 case slice0 x hi mx=>rw[h x (by simp),h hi (by simp),h mx (by simp)]
 case shift off x=>rw[h x (by simp)]
 case part g s off x=>rw[h x (by simp)]
 case iaS s x i=>rw[h x (by simp),h i (by simp)]
 case iaA len s x i=>rw[h x (by simp),h i (by simp)]
 case ixS x i=>rw[h x (by simp),h i (by simp)]
 case ixA g s len x i=>rw[h x (by simp),h i (by simp)]
 case nth i x=>rw[h x (by simp)]
 case len x=>rw[h x (by simp)]
 case lenS x=>rw[h x (by simp)]
 case append s b str flat x y=>rw[h x (by simp),h y (by simp)]
 case min x y=>rw[h x (by simp),h y (by simp)]
 case max x y=>rw[h x (by simp),h y (by simp)]
 case slice3 s x lo hi mx=>rw[h x (by simp),h lo (by simp),h hi (by simp),h mx (by simp)]
 case clear s z x=>rw[h x (by simp)]
 case buildDp s n xs=>rw[Zej h]
 case appDp s b f x y=>rw[h x (by simp),h y (by simp)]
 case asgDp s n x=>rw[h x (by simp)]
 case call f as=>rw[h f (by simp),Zej (xs:=as) fun y hy=>h y (Kz _ hy)]
section
variable {U:Nat→Prop} {hp hp' : Hp}
structure Xh (U:Nat→Prop) (hp hp' : Hp):Prop where
 same:∀ id,U id→lkp hp id=lkp hp' id
 closed:∀ id o,U id→lkp hp id=some o→∀ i∈Zbe o,U i
def InU (U:Nat→Prop) (x:AV):Prop:=∀ id∈ZB x,U id
theorem Zud (h:Xh U hp hp') {x:AV} (hx:InU U x) (g:Bool) (s:Nat):Uz hp g s x=Uz hp' g s x:=by
 cases x<;>simp only[Uz]
 case ptr id off=>rw[h.same id (hx id (by simp[ZB,ZC,Zm]))]
 case prow id sz i off=>rw[h.same id (hx id (by simp[ZB,ZC,Zm]))]
theorem Zky (h:Xh U hp hp') {x:AV} (hx:InU U x) (sz n:Nat):Qy hp sz n x=Qy hp' sz n x:=by
 cases x<;>simp only[Qy]
 case d x=>cases x<;>rfl
 case own id=>rw[h.same id (hx id (by simp[ZB,ZC,Zm]))]
 case ownv id off m=>rw[h.same id (hx id (by simp[ZB,ZC,Zm]))]
theorem ZsJ (h:Xh U hp hp') {x:AV} (hx:InU U x) (s:Nat) (lo hi:Option AV):Wm hp s lo hi x=Wm hp' s lo hi x:=by
 cases x<;>simp only[Wm]
 case d x=>cases x<;>rfl
 case own id=>rw[h.same id (hx id (by simp[ZB,ZC,Zm]))]
 case ownv id off m=>rw[h.same id (hx id (by simp[ZB,ZC,Zm]))]
theorem Ziv (h:Xh U hp hp') {x:AV} (hx:InU U x):ZdC hp x=ZdC hp' x:=by
 cases x<;>simp only[ZdC]
 case d x=>cases x<;>rfl
 case own id=>rw[h.same id (hx id (by simp[ZB,ZC,Zm]))]
theorem ZsK (h:Xh U hp hp') {x:AV} (hx:InU U x) (s:Nat) (z:D):ZdF hp s z x=ZdF hp' s z x:=by
 cases x<;>simp only[ZdF]
 case ownv id off m=>rw[h.same id (hx id (by simp[ZB,ZC,Zm]))]
theorem ZlI (h:Xh U hp hp') {x:AV} (hx:InU U x) (flat:Bool):Zes hp flat x=Zes hp' flat x:=by
 cases x<;>simp only[Zes]
 case d x=>cases x<;>rfl
 case own id=>rw[h.same id (hx id (by simp[ZB,ZC,Zm]))]
 case ownv id off m=>rw[h.same id (hx id (by simp[ZB,ZC,Zm]))]
theorem Zue (h:Xh U hp hp') {x:AV} (hx:InU U x) (sz b base:Nat) (aa:List Nat) (ys:List D) (ex:Bool):ZgA hp sz b base aa ys ex x=ZgA hp' sz b base aa ys ex x:=by
 cases x<;>simp only[ZgA]
 case own id=>rw[h.same id (hx id (by simp[ZB,ZC,Zm]))]
 case ownv id off m=>rw[h.same id (hx id (by simp[ZB,ZC,Zm]))]
theorem Zp6 (h:Xh U hp hp') {x:AV} (hx:InU U x):Zdo hp x=Zdo hp' x:=by
 cases x<;>simp only[Zdo]
 case own id=>rw[h.same id (hx id (by simp[ZB,ZC,Zm]))]
theorem Zp7 (h:Xh U hp hp') {x:AV} (hx:InU U x) (s b base id n:Nat) (ys:List D):Zb2 hp s b base id n ys x=Zb2 hp' s b base id n ys x:=by
 cases x<;>simp only[Zb2]
 case own k=>rw[h.same k (hx k (by simp[ZB,ZC,Zm]))]
theorem Zh4 (h:Xh U hp hp') {x y:AV} (hx:InU U x) (hy:InU U y) (s b:Nat) (str flat:Bool) (base:Nat):W1 hp s b str flat base x y=W1 hp' s b str flat base x y:=by
 unfold W1;rw[ZlI h hy];congr 1
 funext q
 rw[Zue h hx]
theorem Zjh (h:Xh U hp hp') {x:AV} (hx:InU U x):Yu hp x=Yu hp' x:=by
 cases x<;>simp only[Yu]
 case own id=>rw[h.same id (hx id (by simp[ZB,ZC,Zm]))]
theorem ZsL (h:Xh U hp hp') (ids:List Nat):Xh U (meltIn hp ids) (meltIn hp' ids):=by
 refine⟨fun id aa=>by rw[U6,U6,h.same id aa],fun id o aa hl=>?_⟩;rw[U6] at hl;cases hl0:lkp hp id with
 | none=>rw[hl0] at hl;cases hl
 | some o0=>
  rw[hl0] at hl;simp only[KJ,Option.some.injEq] at hl;subst hl;have:=h.closed id o0 aa hl0;split
  ·cases o0<;>exact this
  ·exact this
theorem Zp8 (h:Xh U hp hp') {x y:AV} (hx:InU U x) (hy:InU U y) (s b:Nat) (str flat:Bool) (base:Nat) (ms:List Nat):VG hp s b str flat base x y ms=VG hp' s b str flat base x y ms:=by
 cases ms with
 | nil=>exact Zh4 h hx hy s b str flat base
 | cons i r=>simp only[VG];rw[Zh4 (ZsL h (i :: r)) hx hy]
theorem Zuf (h:Xh U hp hp') {x y:AV} (hx:InU U x) (hy:InU U y) (s b:Nat) (str flat:Bool) (base:Nat):Zeu hp s b str flat base y x=Zeu hp' s b str flat base y x:=by
 cases x<;>simp only[Zeu]<;>first | (rw[Zjh h hx,Zjh h hy];exact Zp8 h hx hy s b str flat base _) | skip
 rename_i id nm;rw[ZlI h hy,h.same id (hx id (by simp[ZB,ZC,Zm]))]
theorem ZvV (h:Xh U hp hp') {x y:AV} (hx:InU U x) (hy:InU U y) (s b base:Nat):Zqg hp s b base x y=Zqg hp' s b base x y:=by
 unfold Zqg;rw[Zp6 h hy];congr 2
 funext q
 rw[Zp7 h hx]
theorem Zug (h:Xh U hp hp') {n:Nat} {x:AV} (hx:∀ id∈Zm x,U id):Zdn hp n x=Zdn hp' n x:=by
 cases x<;>simp only[Zdn]
 case own id=>rw[h.same id (hx id (by simp[Zm]))]
theorem ZlJ (h:Xh U hp hp') {n:Nat}:∀ {xs:List AV},(∀ id∈xs.flatMap Zm,U id)→Zet hp n xs=Zet hp' n xs
 | [],_=>rfl
 | x :: xs,hx=>by
  simp only[Zet];rw[Zug h fun id aa=>hx id (by simp only[KG,Kg];exact .inl aa),ZlJ h (xs:=xs) fun id aa=>hx id (by simp only[KG,Kg];exact .inr aa)]
theorem Zp9 (h:Xh U hp hp') {base s n:Nat} {xs:List AV} (hx:∀ x∈xs,InU U x):buildDp hp base s n xs=buildDp hp' base s n xs:=by
 cases xs with
 | nil=>rfl
 | cons x xs=>
  cases xs with
  | cons y ys=>cases x<;>rfl
  | nil=>
   cases x<;>simp only[buildDp]
   rename_i cs;rw[ZlJ h (hx (.agg cs) (by simp))]
theorem ZlK (h:Xh U hp hp') {x:AV} (hx:∀ id∈Zm x,U id):ZbP hp x=ZbP hp' x:=by
 cases x<;>simp only[ZbP]
 case own id=>rw[h.same id (hx id (by simp[Zm]))]
theorem Zgq (h:Xh U hp hp'):∀ {xs:List AV},(∀ id∈xs.flatMap Zm,U id)→Wp hp xs=Wp hp' xs
 | [],_=>rfl
 | x :: xs,hx=>by
  simp only[Wp];rw[ZlK h fun id aa=>hx id (by simp only[KG,Kg];exact .inl aa),Zgq h (xs:=xs) fun id aa=>hx id (by simp only[KG,Kg];exact .inr aa)]
theorem ZsM (h:Xh U hp hp') {x:AV} (hx:InU U x) (slc:List (Option Nat)) (s base:Nat) (vs:List AV) (hv:∀ id∈vs.flatMap Zm,U id):ZaB hp slc s base vs x=ZaB hp' slc s base vs x:=by
 cases x<;>simp only[ZaB]
 case ptr id off=>rw[h.same id (hx id (by simp[ZB,ZC,Zm]))]
 case prow id sz i off=>
  rw[h.same id (hx id (by simp[ZB,ZC,Zm]))];unfold Zct;rw[Zgq h hv]
theorem Zuh {x:AV} (hx:InU U x):∀ id∈x.cells.flatMap Zm,U id:=by
 intro id aa;refine hx id ?_;cases x<;>simp only[AV.cells] at aa<;>first
  | (simp[Zm] at aa;done)
  | (obtain⟨c,hc,ab⟩:=Kv.1 aa;obtain⟨y,_,rfl⟩:=K5.1 hc;simp[Zm] at ab;done)
  | (simpa [ZB,ZC,Zm] using aa)
theorem ZvW (h:Xh U hp hp') {x:AV} (hx:InU U x):give hp x=give hp' x:=by
 cases x with
 | agg cs=>simp only[give];rw[Zgq h hx]
 | own id=>exact ZlK h (x:=.own id) hx
 | _=>rfl
theorem Zh5 (h:Xh U hp hp'):∀ {xs:List AV},(∀ x∈xs,InU U x)→WZ hp xs=WZ hp' xs
 | [],_=>rfl
 | x :: xs,hx=>by
  simp only[WZ];rw[ZvW h (hx x (by simp)),Zh5 h (xs:=xs) fun y hy=>hx y (Kz _ hy)]
theorem Ze5 (h:Xh U hp hp') {x:AV} (hx:∀ id∈Zm x,U id):ZhX hp x=ZhX hp' x:=by
 cases x<;>simp only[ZhX]
 case own id=>rw[h.same id (hx id (by simp[Zm]))]
 case ownv id off n=>rw[h.same id (hx id (by simp[Zm]))]
theorem ZnF (h:Xh U hp hp'):∀ {xs:List AV},(∀ id∈xs.flatMap Zm,U id)→QF (ZhX hp) xs=QF (ZhX hp') xs
 | [],_=>rfl
 | x :: xs,hx=>by
  simp only[QF];rw[Ze5 h fun id aa=>hx id (by simp only[KG,Kg];exact .inl aa),ZnF h (xs:=xs) fun id aa=>hx id (by simp only[KG,Kg];exact .inr aa)]
theorem Zrw (h:Xh U hp hp') {x:AV} (hx:InU U x):toD hp x=toD hp' x:=by
 cases x with
 | agg cs=>simp only[toD];rw[ZnF h hx]
 | own id=>exact Ze5 h (x:=.own id) hx
 | ownv id off n=>exact Ze5 h (x:=.ownv id off n) hx
 | _=>rfl
theorem ZvX (h:Xh U hp hp') (m:Bool) {x:AV} (hx:InU U x):ZdG hp m x=ZdG hp' m x:=by
 cases x with
 | own id=>
  simp only[ZdG];cases m
  ·simp only[Zfb];rw[Ze5 h (x:=.own id) hx]
  ·rfl
 | agg cs=>simp only[ZdG];rw[Zrw h hx]
 | ownv id off n=>simp only[ZdG];rw[Zrw h hx]
 | _=>rfl
theorem ZnG (h:Xh U hp hp') (m:Nat→Bool):∀ {xs:List AV} (i:Nat),(∀ x∈xs,InU U x)→args hp m i xs=args hp' m i xs
 | [],i,_=>rfl
 | x :: xs,i,hx=>by
  simp only[args];rw[ZvX h (m i) (hx x (by simp)),ZnG h m (xs:=xs) (i+1) fun y hy=>hx y (Kz _ hy)]
theorem ZAP {m:Bool} {x y:AV} (hx:InU U x) (h:ZdG hp m x=some y):InU U y:=by
 unfold ZdG at h;split at h
 ·cases h;exact hx
 ·cases h;exact hx
 ·cases h;exact hx
 ·cases h;exact hx
 ·cases h;exact hx
 ·rename_i id;cases m
  ·simp only[Zfb,asD] at h;obtain⟨d,_,h⟩:=Za h;cases h;exact fun id aa=>by simp[ZB,ZC,Zm] at aa
  ·simp only[Zfb] at h;cases h;exact hx
 ·cases m
  ·simp only[ZgC] at h;cases h;exact fun id aa=>by simp[ZB,ZC,Zm] at aa
  ·simp only[ZgC] at h;cases h;exact hx
 ·cases h;exact hx
 ·obtain⟨d,_,h⟩:=Za h;cases h;exact fun id aa=>by simp[ZB,ZC,Zm] at aa
theorem Zxl {m:Nat→Bool}:∀ {xs ys:List AV} (i:Nat),(∀ x∈xs,InU U x)→args hp m i xs=some ys→∀ y∈ys,InU U y
 | [],ys,i,_,h=>by simp only[args] at h;cases h;simp
 | x :: xs,ys,i,hx,h=>by
  simp only[args] at h;obtain⟨y,h1,h⟩:=Za h;obtain⟨aa,h2,h⟩:=Za h;cases h;intro z hz;rcases Kf.1 hz with rfl | hz
  ·exact ZAP (hx x (by simp)) h1
  ·exact Zxl (i+1) (fun y hy=>hx y (by simp[hy])) h2 z hz
theorem Zdi (h:Xh U hp hp'):∀ (n:Nat) (todo aa:List Nat),(∀ i∈todo,U i)→QL hp n todo aa=QL hp' n todo aa
 | 0,todo,aa,_=>by simp only[QL]
 | n+1,[],aa,_=>by simp only[QL]
 | n+1,id :: todo,aa,ht=>by
  simp only[QL];rw[Zdi h n todo aa fun i hi=>ht i (by simp[hi])];rw[← h.same id (ht id (by simp))];cases hl:lkp hp id with
  | none=>simp only[JC];rw[Zdi h n todo aa fun i hi=>ht i (by simp[hi])]
  | some o=>
   simp only[JC];rw[Zdi h n (todo++Zbe o) (aa++[id]) fun i hi=>by
    rcases Kg.1 hi with hi | hi
    ·exact ht i (by simp[hi])
    ·exact h.closed id o (ht id (by simp)) hl i hi]
theorem Zji (h:Xh U hp hp'):∀ (n:Nat) (todo aa:List Nat),(∀ i∈todo,U i)→(∀ i∈aa,U i)→∀ i∈QL hp n todo aa,U i
 | 0,todo,aa,_,ha=>by simp only[QL];exact ha
 | n+1,[],aa,_,ha=>by simp only[QL];exact ha
 | n+1,id :: todo,aa,ht,ha=>by
  simp only[QL];split
  ·exact Zji h n todo aa (fun i hi=>ht i (by simp[hi])) ha
  ·cases hl:lkp hp id with
   | none=>simp only[JC];exact Zji h n todo aa (fun i hi=>ht i (by simp[hi])) ha
   | some o=>
    simp only[JC];refine Zji h n (todo++Zbe o) (aa++[id]) (fun i hi=>?_) fun i hi=>?_
    ·rcases Kg.1 hi with hi | hi
     ·exact ht i (by simp[hi])
     ·exact h.closed id o (ht id (by simp)) hl i hi
    ·rcases Kg.1 hi with hi | hi
     ·exact ha i hi
     ·simp at hi;subst hi;exact ht i (by simp)
theorem ZnH (h:Xh U hp hp'):∀ {ids:List Nat},(∀ i∈ids,U i)→Zcw hp ids=Zcw hp' ids
 | [],_=>rfl
 | i :: ids,hi=>by simp only[Zcw,h.same i (hi i (by simp)),ZnH h (ids:=ids) fun j hj=>hi j (Kz _ hj)]
theorem ZnI (h:Xh U hp hp') {base:Nat} {ids aa:List Nat} (hi:∀ i∈ids,U i) (hl:∀ i∈aa,U i) (r:AV) (out:List Zl):JE hp base ids aa r out=JE hp' base ids aa r out:=by
 unfold JE;have:(ids.filter fun i=>Y1 (lkp hp i))=ids.filter fun i=>Y1 (lkp hp' i):=List.filter_congr fun i hm=>by rw[h.same i (hi i hm)]
 have h2:∀ {l:List Nat},(∀ i∈l,U i)→(l.any fun i=>Zby (lkp hp i))=l.any fun i=>Zby (lkp hp' i):=by
  intro l
  induction l with
  | nil=>intro _;rfl
  | cons i l ih=>intro hl;simp only[List.any_cons];rw[h.same i (hl i (by simp)),ih fun k hk=>hl k (by simp[hk])]
 rw[this,h2 hl]
theorem Zzt (x:AV):∀ i∈ZbO x,i∈Zm x:=by
 intro i hi;cases x<;>simp only[ZbO,Zm] at hi ⊢ <;> first | exact hi | (simp at hi)
theorem Zx6 (x:AV):∀ i∈ZeZ x,i∈ZB x:=by
 intro i hi;cases x with
 | agg cs=>
  obtain⟨c,hc,hi⟩:=Kv.1 hi;exact Kv.2 ⟨c,hc,Zzt c i hi⟩
 | own id=>exact hi
 | ownv id a b=>exact hi
 | _=>simp[ZeZ,ZbO] at hi
theorem Zrx:∀ {xs ys:List AV},(∀ x∈xs,InU U x)→∀ i∈YN xs ys,U i
 | [],ys,_,i,hi=>by cases ys<;>simp[YN] at hi
 | x :: xs,[],_,i,hi=>by simp[YN] at hi
 | x :: xs,y :: ys,hx,i,hi=>by
  have ih:=Zrx (ys:=ys) fun z hz=>hx z (Kz _ hz);cases y<;>simp only[YN] at hi<;>first | exact ih i hi | skip
  rcases Kg.1 hi with hi | hi
  ·exact hx x (by simp) i (Zx6 x i hi)
  ·exact ih i hi
theorem Zh6 (h:Xh U hp hp') (rs:List Nat):∀ {ids:List Nat},(∀ i∈ids,U i)→Zb1 hp rs ids=Zb1 hp' rs ids
 | [],_=>rfl
 | i :: ids,hi=>by
  have ih:=Zh6 h rs (ids:=ids) fun k hk=>hi k (by simp[hk]);simp only[Zb1,Lm] at ih ⊢;rw[ih,h.1 i (hi i (by simp))]
theorem Zui (h:Xh U hp hp') (C:Orc) (m:Nat→Bool) (base f:Nat) {ab:List AV} (hx:∀ x∈ab,InU U x):ZbR C m hp base f ab=ZbR C m hp' base f ab:=by
 unfold ZbR;rw[← ZnG h m 0 hx];cases ha:args hp m 0 ab with
 | none=>rfl
 | some as=>
  simp only[bnd];have ad:=Zxl 0 hx ha;have ht:∀ i∈as.flatMap ZB,U i:=fun i hi=>by
   obtain⟨y,hy,hi⟩:=Kv.1 hi;exact ad y hy i hi
  have hf:Q9 hp=Q9 hp':=rfl;rw[hf,← Zdi h (Q9 hp') (as.flatMap ZB) [] ht];have aa:=Zji h (Q9 hp') (as.flatMap ZB) [] ht (by simp);unfold Zdl;rw[ZnH h aa,Zh6 h _ aa];congr 1
  congr 1
  funext q
  exact ZnI h aa (Zrx hx) q.1 q.2
theorem clo_in {f:Nat} {aa:List AV} (h:InU U (.clo f aa)):∀ x∈aa,x.atom=true→InU U x:=by
 intro x hx ha id ab;refine h id (Kv.2 ⟨x,hx,?_⟩);cases x<;>first | exact ab | (simp[AV.atom] at ha)
end
end Go.Abs
