/- Own text. -/
import Derived.Test.YtefabmohhbhlfaaAbsSound2
set_option linter.unusedVariables false
set_option linter.unusedSimpArgs false
namespace Go.Abs
open Go
theorem Jj {sl sl' : Sl}:∀ {xs:List Opd},(∀ x∈xs,evO sl x=evO sl' x)→evL sl xs=evL sl' xs
 | [],_=>rfl
 | x :: xs,h=>by simp only[evL,h x (by simp),Jj (xs:=xs) fun y hy=>h y (Ks _ hy)]
theorem Zim {sl sl' : Sl}:∀ {xs:List (Nat×Nat×Opd)},(∀ x∈xs.map (fun q=>q.2.2),evO sl x=evO sl' x)→evP sl xs=evP sl' xs
 | [],_=>rfl
 | (a,b,x) :: xs,h=>by simp only[evP,h x (by simp),Zim (xs:=xs) fun y hy=>h y (by simp only[Ko,Ke];exact .inr hy)]
theorem Zbc {sl sl' : Sl} {x:Option Opd} (h:∀ y∈Zl9 x,evO sl y=evO sl' y):evM sl x=evM sl' x:=by
 cases x with
 | none=>rfl
 | some y=>simp only[evM,h y (by simp[Zl9])]
theorem Qy (C:Orc) (M:Zg) {sl sl' : Sl} (hp:Hp) (base:Nat):∀ {c:COp},(∀ x∈Zr c,evO sl x=evO sl' x)→vop C M sl hp base c=vop C M sl' hp base c:=by
 intro c h;cases c<;>simp only[Zr] at h<;>simp only[vop]
 case move x=>rw[h x (by simp)]
 case assign s x=>rw[h x (by simp)]
 case pick c a b=>rw[h c (by simp),h a (by simp),h b (by simp)]
 case box x=>rw[h x (by simp)]
 case build zs ps=>rw[Zim h]
 case buildSl s xs=>rw[Jj h]
 case load g s a=>rw[h a (by simp)]
 case store slc s a x=>rw[h a (by simp),h x (by simp)]
 case nilCheck x=>rw[h x (by simp)]
 case bin op eq x y=>rw[h x (by simp),h y (by simp)]
 case un op x=>rw[h x (by simp)]
 case eqA neg n x y=>rw[h x (by simp),h y (by simp)]
 case convI k x=>rw[h x (by simp)]
 case convS x=>rw[h x (by simp)]
 case fn f cs=>rw[Jj h]
 case make s b z l c=>rw[h l (by simp),h c (by simp)]
 case slice s x lo hi=>rw[h x (by simp),Zbc fun y hy=>h y (by simp[hy]),Zbc (x:=hi) fun y hy=>h y (by simp[hy])]
 case sliceS x lo hi=>rw[h x (by simp),Zbc fun y hy=>h y (by simp[hy]),Zbc (x:=hi) fun y hy=>h y (by simp[hy])]
 case slice0 x hi mx=>rw[h x (by simp),h hi (by simp),h mx (by simp)]
 case shift off x=>rw[h x (by simp)]
 case part g s off x=>rw[h x (by simp)]
 case iaS s x i=>rw[h x (by simp),h i (by simp)]
 case iaA len s x i=>rw[h x (by simp),h i (by simp)]
 case ixS x i=>rw[h x (by simp),h i (by simp)]
 case ixA g s len x i=>rw[h x (by simp),h i (by simp)]
 case nth i x=>rw[h x (by simp)]
 case len x=>rw[h x (by simp)]
 case lenS x=>rw[h x (by simp)]
 case append s b str flat x y=>rw[h x (by simp),h y (by simp)]
 case min x y=>rw[h x (by simp),h y (by simp)]
 case max x y=>rw[h x (by simp),h y (by simp)]
 case slice3 s x lo hi mx=>rw[h x (by simp),h lo (by simp),h hi (by simp),h mx (by simp)]
 case clear s z x=>rw[h x (by simp)]
 case buildT s n xs=>rw[Jj h]
 case appT s b f x y=>rw[h x (by simp),h y (by simp)]
 case asgT s n x=>rw[h x (by simp)]
 case makeT s b n z l c=>rw[h l (by simp),h c (by simp)]
 case call f as=>rw[h f (by simp),Jj (xs:=as) fun y hy=>h y (Ks _ hy)]
section
variable {U:Nat→Prop} {hp hp' : Hp}
structure QA (U:Nat→Prop) (hp hp' : Hp):Prop where
 same:∀ id,U id→lkp hp id=lkp hp' id
 closed:∀ id o,U id→lkp hp id=some o→∀ i∈Vu o,U i
def InU (U:Nat→Prop) (x:AV):Prop:=∀ id∈Zm x,U id
theorem Zkp (h:QA U hp hp') {x:AV} (hx:InU U x) (g:Bool) (s:Nat):YV hp g s x=YV hp' g s x:=by
 cases x<;>simp only[YV]
 case ptr id off=>rw[h.same id (hx id (by simp[Zm,Zn,Zf]))]
 case prow id sz i off=>rw[h.same id (hx id (by simp[Zm,Zn,Zf]))]
theorem ZdD (h:QA U hp hp') {x:AV} (hx:InU U x) (sz n:Nat):Z9 hp sz n x=Z9 hp' sz n x:=by
 cases x<;>simp only[Z9]
 case d x=>cases x<;>rfl
 case own id=>rw[h.same id (hx id (by simp[Zm,Zn,Zf]))]
 case ownv id off m=>rw[h.same id (hx id (by simp[Zm,Zn,Zf]))]
theorem Zjr (h:QA U hp hp') {x:AV} (hx:InU U x) (s:Nat) (lo hi:Option AV):X4 hp s lo hi x=X4 hp' s lo hi x:=by
 cases x<;>simp only[X4]
 case d x=>cases x<;>rfl
 case own id=>rw[h.same id (hx id (by simp[Zm,Zn,Zf]))]
 case ownv id off m=>rw[h.same id (hx id (by simp[Zm,Zn,Zf]))]
theorem Zb4 (h:QA U hp hp') {x:AV} (hx:InU U x):UV hp x=UV hp' x:=by
 cases x<;>simp only[UV]
 case d x=>cases x<;>rfl
 case own id=>rw[h.same id (hx id (by simp[Zm,Zn,Zf]))]
theorem Zjs (h:QA U hp hp') {x:AV} (hx:InU U x) (s:Nat) (z:D):JM hp s z x=JM hp' s z x:=by
 cases x<;>simp only[JM]
 case ownv id off m=>rw[h.same id (hx id (by simp[Zm,Zn,Zf]))]
theorem Zkq (h:QA U hp hp') {x:AV} (hx:InU U x) (flat:Bool):ZaD hp flat x=ZaD hp' flat x:=by
 cases x<;>simp only[ZaD]
 case d x=>cases x<;>rfl
 case own id=>rw[h.same id (hx id (by simp[Zm,Zn,Zf]))]
 case ownv id off m=>rw[h.same id (hx id (by simp[Zm,Zn,Zf]))]
theorem Zkr (h:QA U hp hp') {x:AV} (hx:InU U x) (sz b base:Nat) (aa:List Nat) (ys:List D) (ex:Bool):ZbS hp sz b base aa ys ex x=ZbS hp' sz b base aa ys ex x:=by
 cases x<;>simp only[ZbS]
 case own id=>rw[h.same id (hx id (by simp[Zm,Zn,Zf]))]
 case ownv id off m=>rw[h.same id (hx id (by simp[Zm,Zn,Zf]))]
theorem ZhQ (h:QA U hp hp') {x:AV} (hx:InU U x):UN hp x=UN hp' x:=by
 cases x<;>simp only[UN]
 case own id=>rw[h.same id (hx id (by simp[Zm,Zn,Zf]))]
theorem ZhR (h:QA U hp hp') {x:AV} (hx:InU U x) (s b base id n:Nat) (ys:List D):WY hp s b base id n ys x=WY hp' s b base id n ys x:=by
 cases x<;>simp only[WY]
 case own k=>rw[h.same k (hx k (by simp[Zm,Zn,Zf]))]
theorem ZbG (h:QA U hp hp') {x y:AV} (hx:InU U x) (hy:InU U y) (s b:Nat) (str flat:Bool) (base:Nat):VE hp s b str flat base x y=VE hp' s b str flat base x y:=by
 unfold VE;rw[Zkq h hy];congr 1
 funext q
 rw[Zkr h hx]
theorem ZcB (h:QA U hp hp') {x:AV} (hx:InU U x):QU hp x=QU hp' x:=by
 cases x<;>simp only[QU]
 case own id=>rw[h.same id (hx id (by simp[Zm,Zn,Zf]))]
theorem Zjt (h:QA U hp hp') (ids:List Nat):QA U (meltIn hp ids) (meltIn hp' ids):=by
 refine⟨fun id aa=>by rw[Vf,Vf,h.same id aa],fun id o aa hl=>?_⟩;rw[Vf] at hl;cases hl0:lkp hp id with
 | none=>rw[hl0] at hl;cases hl
 | some o0=>
  rw[hl0] at hl;simp only[KK,Option.some.injEq] at hl;subst hl;have:=h.closed id o0 aa hl0;split
  ·cases o0 with
   | tree s n xs l=>cases l<;>exact this
   | _=>exact this
  ·exact this
theorem ZbH (h:QA U hp hp') {x y:AV} (hx:InU U x) (hy:InU U y) (s b:Nat) (str flat:Bool) (base:Nat) (ms:List Nat):XG hp s b str flat base x y ms=XG hp' s b str flat base x y ms:=by
 cases ms with
 | nil=>exact ZbG h hx hy s b str flat base
 | cons i r=>simp only[XG];rw[ZbG (Zjt h (i :: r)) hx hy]
theorem ZfF (h:QA U hp hp') {x y:AV} (hx:InU U x) (hy:InU U y) (s b base:Nat):appT hp s b base x y=appT hp' s b base x y:=by
 unfold appT;rw[ZhQ h hy];congr 2
 funext q
 rw[ZhR h hx]
theorem Zeo (h:QA U hp hp') {x:AV} (hx:∀ id∈Zf x,U id):WP hp x=WP hp' x:=by
 cases x<;>simp only[WP]
 case own id=>rw[h.same id (hx id (by simp[Zf]))]
theorem Zar (h:QA U hp hp'):∀ {xs:List AV},(∀ id∈xs.flatMap Zf,U id)→X7 hp xs=X7 hp' xs
 | [],_=>rfl
 | x :: xs,hx=>by
  simp only[X7];rw[Zeo h fun id aa=>hx id (by simp only[Kz,Kc];exact .inl aa),Zar h (xs:=xs) fun id aa=>hx id (by simp only[Kz,Kc];exact .inr aa)]
theorem Zks (h:QA U hp hp') {n:Nat} {x:AV} (hx:∀ id∈Zf x,U id):ZaC hp n x=ZaC hp' n x:=by
 cases x<;>simp only[ZaC]
 case own id=>rw[h.same id (hx id (by simp[Zf]))]
theorem UI (h:QA U hp hp') {n:Nat}:∀ {xs:List AV},(∀ id∈xs.flatMap Zf,U id)→Yc hp n xs=Yc hp' n xs
 | [],_=>rfl
 | x :: xs,hx=>by
  simp only[Yc];rw[Zks h fun id aa=>hx id (by simp only[Kz,Kc];exact .inl aa),UI h (xs:=xs) fun id aa=>hx id (by simp only[Kz,Kc];exact .inr aa)]
theorem UW (h:QA U hp hp') {n s:Nat}:∀ {xs:List AV},(∀ x∈xs,InU U x)→XF hp n s xs=XF hp' n s xs
 | [],_=>rfl
 | x :: xs,hx=>by
  cases x<;>simp only[XF]
  case agg cs=>rw[UI h (hx (.agg cs) (by simp)),UW h (xs:=xs) fun x hm=>hx x (Ks _ hm)]
  case own id=>rw[UI h (xs:=[.own id]) (fun i hi=>hx (.own id) (by simp) i (by simpa [Zm,Zn,Zf] using hi)),UW h (xs:=xs) fun x hm=>hx x (Ks _ hm)]
theorem Zju (h:QA U hp hp') {base s n:Nat} {xs:List AV} (hx:∀ x∈xs,InU U x):buildT hp base s n xs=buildT hp' base s n xs:=by
 unfold buildT;rw[UW h hx]
theorem Zjv (h:QA U hp hp') {x:AV} (hx:InU U x) (slc:List (Option Nat)) (s base:Nat) (vs:List AV) (hv:∀ id∈vs.flatMap Zf,U id):WH hp slc s base vs x=WH hp' slc s base vs x:=by
 cases x<;>simp only[WH]
 case ptr id off=>rw[h.same id (hx id (by simp[Zm,Zn,Zf]))]
 case prow id sz i off=>
  rw[h.same id (hx id (by simp[Zm,Zn,Zf]))];unfold Ub;rw[Zar h hv];have ht:∀ n,Yc hp n vs=Yc hp' n vs:=fun n=>UI h hv;simp only[ht]
theorem ZfG {x:AV} (hx:InU U x):∀ id∈x.cells.flatMap Zf,U id:=by
 intro id aa;refine hx id ?_;cases x<;>simp only[AV.cells] at aa<;>first
  | (simp[Zf] at aa;done)
  | (obtain⟨c,hc,ab⟩:=Kr.1 aa;obtain⟨y,_,rfl⟩:=Lc.1 hc;simp[Zf] at ab;done)
  | (simpa [Zm,Zn,Zf] using aa)
theorem ZlE (h:QA U hp hp') {x:AV} (hx:InU U x):give hp x=give hp' x:=by
 cases x with
 | agg cs=>simp only[give];rw[Zar h hx]
 | own id=>exact Zeo h (x:=.own id) hx
 | _=>rfl
theorem ZbI (h:QA U hp hp'):∀ {xs:List AV},(∀ x∈xs,InU U x)→YG hp xs=YG hp' xs
 | [],_=>rfl
 | x :: xs,hx=>by
  simp only[YG];rw[ZlE h (hx x (by simp)),ZbI h (xs:=xs) fun y hy=>hx y (Ks _ hy)]
theorem JG (h:QA U hp hp') {x:AV} (hx:∀ id∈Zf x,U id):ZbC hp x=ZbC hp' x:=by
 cases x<;>simp only[ZbC]
 case own id=>rw[h.same id (hx id (by simp[Zf]))]
 case ownv id off n=>rw[h.same id (hx id (by simp[Zf]))]
theorem ZfH (h:QA U hp hp'):∀ {xs:List AV},(∀ id∈xs.flatMap Zf,U id)→Z7 (ZbC hp) xs=Z7 (ZbC hp') xs
 | [],_=>rfl
 | x :: xs,hx=>by
  simp only[Z7];rw[JG h fun id aa=>hx id (by simp only[Kz,Kc];exact .inl aa),ZfH h (xs:=xs) fun id aa=>hx id (by simp only[Kz,Kc];exact .inr aa)]
theorem Zin (h:QA U hp hp') {x:AV} (hx:InU U x):toD hp x=toD hp' x:=by
 cases x with
 | agg cs=>simp only[toD];rw[ZfH h hx]
 | own id=>exact JG h (x:=.own id) hx
 | ownv id off n=>exact JG h (x:=.ownv id off n) hx
 | _=>rfl
theorem ZlF (h:QA U hp hp') (m:Bool) {x:AV} (hx:InU U x):UC hp m x=UC hp' m x:=by
 cases x with
 | own id=>
  simp only[UC];cases m
  ·simp only[JN];rw[JG h (x:=.own id) hx]
  ·rfl
 | agg cs=>
  simp only[UC];cases m
  ·simp only[JO];rw[Zin h hx]
  ·rfl
 | ownv id off n=>simp only[UC];rw[Zin h hx]
 | _=>rfl
theorem ZfI (h:QA U hp hp') (m:Nat→Bool):∀ {xs:List AV} (i:Nat),(∀ x∈xs,InU U x)→args hp m i xs=args hp' m i xs
 | [],i,_=>rfl
 | x :: xs,i,hx=>by
  simp only[args];rw[ZlF h (m i) (hx x (by simp)),ZfI h m (xs:=xs) (i+1) fun y hy=>hx y (Ks _ hy)]
theorem Zqa {m:Bool} {x y:AV} (hx:InU U x) (h:UC hp m x=some y):InU U y:=by
 unfold UC at h;split at h
 ·cases h;exact hx
 ·cases h;exact hx
 ·cases h;exact hx
 ·cases h;exact hx
 ·cases h;exact hx
 ·rename_i id;cases m
  ·simp only[JN,asD] at h;obtain⟨d,_,h⟩:=Za h;cases h;exact fun id aa=>by simp[Zm,Zn,Zf] at aa
  ·simp only[JN] at h;cases h;exact hx
 ·cases m
  ·simp only[ZaE] at h;cases h;exact fun id aa=>by simp[Zm,Zn,Zf] at aa
  ·simp only[ZaE] at h;cases h;exact hx
 ·cases h;exact hx
 ·cases m
  ·simp only[JO,asD] at h;obtain⟨d,_,h⟩:=Za h;cases h;exact fun id aa=>by simp[Zm,Zn,Zf] at aa
  ·simp only[JO] at h;split at h
   ·cases h
   ·cases h;exact hx
 ·obtain⟨d,_,h⟩:=Za h;cases h;exact fun id aa=>by simp[Zm,Zn,Zf] at aa
theorem ZmJ {m:Nat→Bool}:∀ {xs ys:List AV} (i:Nat),(∀ x∈xs,InU U x)→args hp m i xs=some ys→∀ y∈ys,InU U y
 | [],ys,i,_,h=>by simp only[args] at h;cases h;simp
 | x :: xs,ys,i,hx,h=>by
  simp only[args] at h;obtain⟨y,h1,h⟩:=Za h;obtain⟨aa,h2,h⟩:=Za h;cases h;intro z hz;rcases Ke.1 hz with rfl | hz
  ·exact Zqa (hx x (by simp)) h1
  ·exact ZmJ (i+1) (fun y hy=>hx y (by simp[hy])) h2 z hz
theorem UJ (h:QA U hp hp'):∀ (n:Nat) (todo aa:List Nat),(∀ i∈todo,U i)→Qu hp n todo aa=Qu hp' n todo aa
 | 0,todo,aa,_=>by simp only[Qu]
 | n+1,[],aa,_=>by simp only[Qu]
 | n+1,id :: todo,aa,ht=>by
  simp only[Qu];rw[UJ h n todo aa fun i hi=>ht i (by simp[hi])];rw[← h.same id (ht id (by simp))];cases hl:lkp hp id with
  | none=>simp only[VF];rw[UJ h n todo aa fun i hi=>ht i (by simp[hi])]
  | some o=>
   simp only[VF];rw[UJ h n (todo++Vu o) (aa++[id]) fun i hi=>by
    rcases Kc.1 hi with hi | hi
    ·exact ht i (by simp[hi])
    ·exact h.closed id o (ht id (by simp)) hl i hi]
theorem ZcC (h:QA U hp hp'):∀ (n:Nat) (todo aa:List Nat),(∀ i∈todo,U i)→(∀ i∈aa,U i)→∀ i∈Qu hp n todo aa,U i
 | 0,todo,aa,_,ha=>by simp only[Qu];exact ha
 | n+1,[],aa,_,ha=>by simp only[Qu];exact ha
 | n+1,id :: todo,aa,ht,ha=>by
  simp only[Qu];split
  ·exact ZcC h n todo aa (fun i hi=>ht i (by simp[hi])) ha
  ·cases hl:lkp hp id with
   | none=>simp only[VF];exact ZcC h n todo aa (fun i hi=>ht i (by simp[hi])) ha
   | some o=>
    simp only[VF];refine ZcC h n (todo++Vu o) (aa++[id]) (fun i hi=>?_) fun i hi=>?_
    ·rcases Kc.1 hi with hi | hi
     ·exact ht i (by simp[hi])
     ·exact h.closed id o (ht id (by simp)) hl i hi
    ·rcases Kc.1 hi with hi | hi
     ·exact ha i hi
     ·simp at hi;subst hi;exact ht i (by simp)
theorem ZfJ (h:QA U hp hp'):∀ {ids:List Nat},(∀ i∈ids,U i)→UX hp ids=UX hp' ids
 | [],_=>rfl
 | i :: ids,hi=>by simp only[UX,h.same i (hi i (by simp)),ZfJ h (ids:=ids) fun j hj=>hi j (Ks _ hj)]
theorem ZfK (h:QA U hp hp') {base:Nat} {ids aa:List Nat} (hi:∀ i∈ids,U i) (hl:∀ i∈aa,U i) (keep:Bool) (r:AV) (out:List Zh):WA keep hp base ids aa r out=WA keep hp' base ids aa r out:=by
 unfold WA;have:ZdL hp ids out keep=ZdL hp' ids out keep:=by
  cases keep
  ·exact List.filter_congr fun i hm=>by rw[h.same i (hi i hm)]
  ·rfl
 have h2:∀ {l:List Nat},(∀ i∈l,U i)→(l.any fun i=>Uh (lkp hp i))=l.any fun i=>Uh (lkp hp' i):=by
  intro l
  induction l with
  | nil=>intro _;rfl
  | cons i l ih=>intro hl;simp only[List.any_cons];rw[h.same i (hl i (by simp)),ih fun k hk=>hl k (by simp[hk])]
 rw[this,h2 hl]
theorem ZoI (x:AV):∀ i∈UF x,i∈Zf x:=by
 intro i hi;cases x<;>simp only[UF,Zf] at hi ⊢ <;> first | exact hi | (simp at hi)
theorem Znv (x:AV):∀ i∈JD x,i∈Zm x:=by
 intro i hi;cases x with
 | agg cs=>
  obtain⟨c,hc,hi⟩:=Kr.1 hi;exact Kr.2 ⟨c,hc,ZoI c i hi⟩
 | own id=>exact hi
 | ownv id a b=>exact hi
 | _=>simp[JD,UF] at hi
theorem Zio:∀ {xs ys:List AV},(∀ x∈xs,InU U x)→∀ i∈Xh xs ys,U i
 | [],ys,_,i,hi=>by cases ys<;>simp[Xh] at hi
 | x :: xs,[],_,i,hi=>by simp[Xh] at hi
 | x :: xs,y :: ys,hx,i,hi=>by
  have ih:=Zio (ys:=ys) fun z hz=>hx z (Ks _ hz);cases y<;>simp only[Xh] at hi<;>first | exact ih i hi | skip
  rcases Kc.1 hi with hi | hi
  ·exact hx x (by simp) i (Znv x i hi)
  ·exact ih i hi
theorem ZbJ (h:QA U hp hp') (rs:List Nat):∀ {ids:List Nat},(∀ i∈ids,U i)→WX hp rs ids=WX hp' rs ids
 | [],_=>rfl
 | i :: ids,hi=>by
  have ih:=ZbJ h rs (ids:=ids) fun k hk=>hi k (by simp[hk]);simp only[WX,Lj] at ih ⊢;rw[ih,h.1 i (hi i (by simp))]
theorem Zkt (h:QA U hp hp') (C:Orc) (m:Nat→Bool) (base f:Nat) {ab:List AV} (hx:∀ x∈ab,InU U x):UM C m hp base f ab=UM C m hp' base f ab:=by
 unfold UM;rw[← ZfI h m 0 hx];cases ha:args hp m 0 ab with
 | none=>rfl
 | some as=>
  simp only[bnd];have ad:=ZmJ 0 hx ha;have ht:∀ i∈as.flatMap Zm,U i:=fun i hi=>by
   obtain⟨y,hy,hi⟩:=Kr.1 hi;exact ad y hy i hi
  have hf:QT hp=QT hp':=rfl;rw[hf,← UJ h (QT hp') (as.flatMap Zm) [] ht];have aa:=ZcC h (QT hp') (as.flatMap Zm) [] ht (by simp);unfold JP;rw[ZfJ h aa,ZbJ h _ aa];congr 1
  congr 1
  funext q
  exact ZfK h aa (Zio hx) (m 99) q.1 q.2
theorem clo_in {f:Nat} {aa:List AV} (h:InU U (.clo f aa)):∀ x∈aa,x.atom=true→InU U x:=by
 intro x hx ha id ab;refine h id (Kr.2 ⟨x,hx,?_⟩);cases x<;>first | exact ab | (simp[AV.atom] at ha)
end
end Go.Abs
