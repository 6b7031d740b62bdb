/- Own text. -/
import Derived.Test.YtnachaiejoflhaaDoorAbsSound2
set_option linter.unusedVariables false
set_option linter.unusedSimpArgs false
namespace Go.Abs
open Go
theorem J7 {sl sl' : Sl}:∀ {xs:List Opd},(∀ x∈xs,evO sl x=evO sl' x)→evL sl xs=evL sl' xs
 | [],_=>rfl
 | x :: xs,h=>by simp only[evL,h x (by simp),J7 (xs:=xs) fun y hy=>h y (Kq _ hy)]
theorem ZjM {sl sl' : Sl}:∀ {xs:List (Nat×Nat×Opd)},(∀ x∈xs.map (fun q=>q.2.2),evO sl x=evO sl' x)→evP sl xs=evP sl' xs
 | [],_=>rfl
 | (a,b,x) :: xs,h=>by simp only[evP,h x (by simp),ZjM (xs:=xs) fun y hy=>h y (by simp only[Kl,Ke];exact .inr hy)]
theorem Zcj {sl sl' : Sl} {x:Option Opd} (h:∀ y∈ZmX x,evO sl y=evO sl' y):evM sl x=evM sl' x:=by
 cases x with
 | none=>rfl
 | some y=>simp only[evM,h y (by simp[ZmX])]
theorem QM (C:Orc) (M:Zh) {sl sl' : Sl} (hp:Hp) (base:Nat):∀ {c:COp},(∀ x∈Zr c,evO sl x=evO sl' x)→vop C M sl hp base c=vop C M sl' hp base c:=by
 intro c h;cases c<;>simp only[Zr] at h<;>simp only[vop]
 case move x=>rw[h x (by simp)]
 case assign s x=>rw[h x (by simp)]
 case pick c a b=>rw[h c (by simp),h a (by simp),h b (by simp)]
 case box x=>rw[h x (by simp)]
 case build zs ps=>rw[ZjM h]
 case buildSl s xs=>rw[J7 h]
 case load g s a=>rw[h a (by simp)]
 case store slc s a x=>rw[h a (by simp),h x (by simp)]
 case nilCheck x=>rw[h x (by simp)]
 case bin op eq x y=>rw[h x (by simp),h y (by simp)]
 case un op x=>rw[h x (by simp)]
 case eqA neg n x y=>rw[h x (by simp),h y (by simp)]
 case convI k x=>rw[h x (by simp)]
 case convS x=>rw[h x (by simp)]
 case fn f cs=>rw[J7 h]
 case make s b z l c=>rw[h l (by simp),h c (by simp)]
 case slice s x lo hi=>rw[h x (by simp),Zcj fun y hy=>h y (by simp[hy]),Zcj (x:=hi) fun y hy=>h y (by simp[hy])]
 case sliceS x lo hi=>rw[h x (by simp),Zcj fun y hy=>h y (by simp[hy]),Zcj (x:=hi) fun y hy=>h y (by simp[hy])]
 case slice0 x hi mx=>rw[h x (by simp),h hi (by simp),h mx (by simp)]
 case shift off x=>rw[h x (by simp)]
 case part g s off x=>rw[h x (by simp)]
 case iaS s x i=>rw[h x (by simp),h i (by simp)]
 case iaA len s x i=>rw[h x (by simp),h i (by simp)]
 case ixS x i=>rw[h x (by simp),h i (by simp)]
 case ixA g s len x i=>rw[h x (by simp),h i (by simp)]
 case nth i x=>rw[h x (by simp)]
 case len x=>rw[h x (by simp)]
 case lenS x=>rw[h x (by simp)]
 case append s b str flat x y=>rw[h x (by simp),h y (by simp)]
 case min x y=>rw[h x (by simp),h y (by simp)]
 case max x y=>rw[h x (by simp),h y (by simp)]
 case slice3 s x lo hi mx=>rw[h x (by simp),h lo (by simp),h hi (by simp),h mx (by simp)]
 case clear s z x=>rw[h x (by simp)]
 case buildT s n xs=>rw[J7 h]
 case appT s b f x y=>rw[h x (by simp),h y (by simp)]
 case asgT s n x=>rw[h x (by simp)]
 case makeT s b n z l c=>rw[h l (by simp),h c (by simp)]
 case call f as=>rw[h f (by simp),J7 (xs:=as) fun y hy=>h y (Kq _ hy)]
section
variable {U:Nat→Prop} {hp hp' : Hp}
structure QP (U:Nat→Prop) (hp hp' : Hp):Prop where
 same:∀ id,U id→lkp hp id=lkp hp' id
 closed:∀ id o,U id→lkp hp id=some o→∀ i∈Wb o,U i
def InU (U:Nat→Prop) (x:AV):Prop:=∀ id∈Zl x,U id
theorem Zmg (h:QP U hp hp') {x:AV} (hx:InU U x) (g:Bool) (s:Nat):Vw hp g s x=Vw hp' g s x:=by
 cases x<;>simp only[Vw]
 case ptr id off=>rw[h.same id (hx id (by simp[Zl,Zo,Zg]))]
 case prow id sz i off=>rw[h.same id (hx id (by simp[Zl,Zo,Zg]))]
theorem Ze4 (h:QP U hp hp') {x:AV} (hx:InU U x) (sz n:Nat):Qh hp sz n x=Qh hp' sz n x:=by
 cases x<;>simp only[Qh]
 case d x=>cases x<;>rfl
 case own id=>rw[h.same id (hx id (by simp[Zl,Zo,Zg]))]
 case ownv id off m=>rw[h.same id (hx id (by simp[Zl,Zo,Zg]))]
theorem Zk0 (h:QP U hp hp') {x:AV} (hx:InU U x) (s:Nat) (lo hi:Option AV):Yv hp s lo hi x=Yv hp' s lo hi x:=by
 cases x<;>simp only[Yv]
 case d x=>cases x<;>rfl
 case own id=>rw[h.same id (hx id (by simp[Zl,Zo,Zg]))]
 case ownv id off m=>rw[h.same id (hx id (by simp[Zl,Zo,Zg]))]
theorem Zdp (h:QP U hp hp') {x:AV} (hx:InU U x):JH hp x=JH hp' x:=by
 cases x<;>simp only[JH]
 case d x=>cases x<;>rfl
 case own id=>rw[h.same id (hx id (by simp[Zl,Zo,Zg]))]
theorem Zk1 (h:QP U hp hp') {x:AV} (hx:InU U x) (s:Nat) (z:D):ZaI hp s z x=ZaI hp' s z x:=by
 cases x<;>simp only[ZaI]
 case ownv id off m=>rw[h.same id (hx id (by simp[Zl,Zo,Zg]))]
theorem Zmh (h:QP U hp hp') {x:AV} (hx:InU U x) (flat:Bool):ZbK hp flat x=ZbK hp' flat x:=by
 cases x<;>simp only[ZbK]
 case d x=>cases x<;>rfl
 case own id=>rw[h.same id (hx id (by simp[Zl,Zo,Zg]))]
 case ownv id off m=>rw[h.same id (hx id (by simp[Zl,Zo,Zg]))]
theorem Zmi (h:QP U hp hp') {x:AV} (hx:InU U x) (sz b base:Nat) (aa:List Nat) (ys:List D) (ex:Bool):ZcY hp sz b base aa ys ex x=ZcY hp' sz b base aa ys ex x:=by
 cases x<;>simp only[ZcY]
 case own id=>rw[h.same id (hx id (by simp[Zl,Zo,Zg]))]
 case ownv id off m=>rw[h.same id (hx id (by simp[Zl,Zo,Zg]))]
theorem Zjl (h:QP U hp hp') {x:AV} (hx:InU U x):ZaN hp x=ZaN hp' x:=by
 cases x<;>simp only[ZaN]
 case own id=>rw[h.same id (hx id (by simp[Zl,Zo,Zg]))]
theorem Zjm (h:QP U hp hp') {x:AV} (hx:InU U x) (s b base id n:Nat) (ys:List D):Jv hp s b base id n ys x=Jv hp' s b base id n ys x:=by
 cases x<;>simp only[Jv]
 case own k=>rw[h.same k (hx k (by simp[Zl,Zo,Zg]))]
theorem ZcN (h:QP U hp hp') {x y:AV} (hx:InU U x) (hy:InU U y) (s b:Nat) (str flat:Bool) (base:Nat):Wi hp s b str flat base x y=Wi hp' s b str flat base x y:=by
 unfold Wi;rw[Zmh h hy];congr 1
 funext q
 rw[Zmi h hx]
theorem Zd3 (h:QP U hp hp') {x:AV} (hx:InU U x):Yh hp x=Yh hp' x:=by
 cases x<;>simp only[Yh]
 case own id=>rw[h.same id (hx id (by simp[Zl,Zo,Zg]))]
theorem Zk2 (h:QP U hp hp') (ids:List Nat):QP U (meltIn hp ids) (meltIn hp' ids):=by
 refine⟨fun id aa=>by rw[VQ,VQ,h.same id aa],fun id o aa hl=>?_⟩;rw[VQ] at hl;cases hl0:lkp hp id with
 | none=>rw[hl0] at hl;cases hl
 | some o0=>
  rw[hl0] at hl;simp only[KN,Option.some.injEq] at hl;subst hl;have:=h.closed id o0 aa hl0;split
  ·cases o0 with
   | tree s n xs l=>cases l<;>exact this
   | _=>exact this
  ·exact this
theorem Zjn (h:QP U hp hp') {x y:AV} (hx:InU U x) (hy:InU U y) (s b:Nat) (str flat:Bool) (base:Nat) (ms:List Nat):Vb hp s b str flat base x y ms=Vb hp' s b str flat base x y ms:=by
 cases ms with
 | nil=>exact ZcN h hx hy s b str flat base
 | cons i r=>simp only[Vb];rw[ZcN (Zk2 h (i :: r)) hx hy]
theorem ZnB (h:QP U hp hp') {x y:AV} (hx:InU U x) (hy:InU U y) (s b base:Nat):appT hp s b base x y=appT hp' s b base x y:=by
 unfold appT;rw[Zjl h hy];congr 2
 funext q
 rw[Zjm h hx]
theorem ZfO (h:QP U hp hp') {x:AV} (hx:∀ id∈Zg x,U id):Uh hp x=Uh hp' x:=by
 cases x<;>simp only[Uh]
 case own id=>rw[h.same id (hx id (by simp[Zg]))]
theorem Zbz (h:QP U hp hp'):∀ {xs:List AV},(∀ id∈xs.flatMap Zg,U id)→YA hp xs=YA hp' xs
 | [],_=>rfl
 | x :: xs,hx=>by
  simp only[YA];rw[ZfO h fun id aa=>hx id (by simp only[Kw,Kd];exact .inl aa),Zbz h (xs:=xs) fun id aa=>hx id (by simp only[Kw,Kd];exact .inr aa)]
theorem Zmj (h:QP U hp hp') {n:Nat} {x:AV} (hx:∀ id∈Zg x,U id):ZbJ hp n x=ZbJ hp' n x:=by
 cases x<;>simp only[ZbJ]
 case own id=>rw[h.same id (hx id (by simp[Zg]))]
theorem ZbA (h:QP U hp hp') {n:Nat}:∀ {xs:List AV},(∀ id∈xs.flatMap Zg,U id)→YY hp n xs=YY hp' n xs
 | [],_=>rfl
 | x :: xs,hx=>by
  simp only[YY];rw[Zmj h fun id aa=>hx id (by simp only[Kw,Kd];exact .inl aa),ZbA h (xs:=xs) fun id aa=>hx id (by simp only[Kw,Kd];exact .inr aa)]
theorem ZcO (h:QP U hp hp') {n s:Nat}:∀ {xs:List AV},(∀ x∈xs,InU U x)→VD hp n s xs=VD hp' n s xs
 | [],_=>rfl
 | x :: xs,hx=>by
  cases x<;>simp only[VD]
  rename_i cs;rw[ZbA h (hx (.agg cs) (by simp)),ZcO h (xs:=xs) fun x hm=>hx x (Kq _ hm)]
theorem Zk3 (h:QP U hp hp') {base s n:Nat} {xs:List AV} (hx:∀ x∈xs,InU U x):buildT hp base s n xs=buildT hp' base s n xs:=by
 unfold buildT;rw[ZcO h hx]
theorem Zk4 (h:QP U hp hp') {x:AV} (hx:InU U x) (slc:List (Option Nat)) (s base:Nat) (vs:List AV) (hv:∀ id∈vs.flatMap Zg,U id):Uc hp slc s base vs x=Uc hp' slc s base vs x:=by
 cases x<;>simp only[Uc]
 case ptr id off=>rw[h.same id (hx id (by simp[Zl,Zo,Zg]))]
 case prow id sz i off=>
  rw[h.same id (hx id (by simp[Zl,Zo,Zg]))];unfold U2;rw[Zbz h hv];have ht:∀ n,YY hp n vs=YY hp' n vs:=fun n=>ZbA h hv;simp only[ht]
theorem ZhF {x:AV} (hx:InU U x):∀ id∈x.cells.flatMap Zg,U id:=by
 intro id aa;refine hx id ?_;cases x<;>simp only[AV.cells] at aa<;>first
  | (simp[Zg] at aa;done)
  | (obtain⟨c,hc,ab⟩:=Kp.1 aa;obtain⟨y,_,rfl⟩:=K8.1 hc;simp[Zg] at ab;done)
  | (simpa [Zl,Zo,Zg] using aa)
theorem ZnC (h:QP U hp hp') {x:AV} (hx:InU U x):give hp x=give hp' x:=by
 cases x with
 | agg cs=>simp only[give];rw[Zbz h hx]
 | own id=>exact ZfO h (x:=.own id) hx
 | _=>rfl
theorem ZcP (h:QP U hp hp'):∀ {xs:List AV},(∀ x∈xs,InU U x)→Y9 hp xs=Y9 hp' xs
 | [],_=>rfl
 | x :: xs,hx=>by
  simp only[Y9];rw[ZnC h (hx x (by simp)),ZcP h (xs:=xs) fun y hy=>hx y (Kq _ hy)]
theorem ZaC (h:QP U hp hp') {x:AV} (hx:∀ id∈Zg x,U id):ZcJ hp x=ZcJ hp' x:=by
 cases x<;>simp only[ZcJ]
 case own id=>rw[h.same id (hx id (by simp[Zg]))]
 case ownv id off n=>rw[h.same id (hx id (by simp[Zg]))]
theorem ZhG (h:QP U hp hp'):∀ {xs:List AV},(∀ id∈xs.flatMap Zg,U id)→Qe (ZcJ hp) xs=Qe (ZcJ hp') xs
 | [],_=>rfl
 | x :: xs,hx=>by
  simp only[Qe];rw[ZaC h fun id aa=>hx id (by simp only[Kw,Kd];exact .inl aa),ZhG h (xs:=xs) fun id aa=>hx id (by simp only[Kw,Kd];exact .inr aa)]
theorem ZjN (h:QP U hp hp') {x:AV} (hx:InU U x):toD hp x=toD hp' x:=by
 cases x with
 | agg cs=>simp only[toD];rw[ZhG h hx]
 | own id=>exact ZaC h (x:=.own id) hx
 | ownv id off n=>exact ZaC h (x:=.ownv id off n) hx
 | _=>rfl
theorem ZnD (h:QP U hp hp') (m:Bool) {x:AV} (hx:InU U x):Jl hp m x=Jl hp' m x:=by
 cases x with
 | own id=>
  simp only[Jl];cases m
  ·simp only[ZaJ];rw[ZaC h (x:=.own id) hx]
  ·rfl
 | agg cs=>
  simp only[Jl];cases m
  ·simp only[ZaK];rw[ZjN h hx]
  ·rfl
 | ownv id off n=>simp only[Jl];rw[ZjN h hx]
 | _=>rfl
theorem ZhH (h:QP U hp hp') (m:Nat→Bool):∀ {xs:List AV} (i:Nat),(∀ x∈xs,InU U x)→args hp m i xs=args hp' m i xs
 | [],i,_=>rfl
 | x :: xs,i,hx=>by
  simp only[args];rw[ZnD h (m i) (hx x (by simp)),ZhH h m (xs:=xs) (i+1) fun y hy=>hx y (Kq _ hy)]
theorem ZsA {m:Bool} {x y:AV} (hx:InU U x) (h:Jl hp m x=some y):InU U y:=by
 unfold Jl at h;split at h
 ·cases h;exact hx
 ·cases h;exact hx
 ·cases h;exact hx
 ·cases h;exact hx
 ·cases h;exact hx
 ·rename_i id;cases m
  ·simp only[ZaJ,asD] at h;obtain⟨d,_,h⟩:=Za h;cases h;exact fun id aa=>by simp[Zl,Zo,Zg] at aa
  ·simp only[ZaJ] at h;cases h;exact hx
 ·cases m
  ·simp only[ZbL] at h;cases h;exact fun id aa=>by simp[Zl,Zo,Zg] at aa
  ·simp only[ZbL] at h;cases h;exact hx
 ·cases h;exact hx
 ·cases m
  ·simp only[ZaK,asD] at h;obtain⟨d,_,h⟩:=Za h;cases h;exact fun id aa=>by simp[Zl,Zo,Zg] at aa
  ·simp only[ZaK] at h;split at h
   ·cases h
   ·cases h;exact hx
 ·obtain⟨d,_,h⟩:=Za h;cases h;exact fun id aa=>by simp[Zl,Zo,Zg] at aa
theorem ZoP {m:Nat→Bool}:∀ {xs ys:List AV} (i:Nat),(∀ x∈xs,InU U x)→args hp m i xs=some ys→∀ y∈ys,InU U y
 | [],ys,i,_,h=>by simp only[args] at h;cases h;simp
 | x :: xs,ys,i,hx,h=>by
  simp only[args] at h;obtain⟨y,h1,h⟩:=Za h;obtain⟨aa,h2,h⟩:=Za h;cases h;intro z hz;rcases Ke.1 hz with rfl | hz
  ·exact ZsA (hx x (by simp)) h1
  ·exact ZoP (i+1) (fun y hy=>hx y (by simp[hy])) h2 z hz
theorem Jr (h:QP U hp hp'):∀ (n:Nat) (todo aa:List Nat),(∀ i∈todo,U i)→QF hp n todo aa=QF hp' n todo aa
 | 0,todo,aa,_=>by simp only[QF]
 | n+1,[],aa,_=>by simp only[QF]
 | n+1,id :: todo,aa,ht=>by
  simp only[QF];rw[Jr h n todo aa fun i hi=>ht i (by simp[hi])];rw[← h.same id (ht id (by simp))];cases hl:lkp hp id with
  | none=>simp only[Wj];rw[Jr h n todo aa fun i hi=>ht i (by simp[hi])]
  | some o=>
   simp only[Wj];rw[Jr h n (todo++Wb o) (aa++[id]) fun i hi=>by
    rcases Kd.1 hi with hi | hi
    ·exact ht i (by simp[hi])
    ·exact h.closed id o (ht id (by simp)) hl i hi]
theorem Zd4 (h:QP U hp hp'):∀ (n:Nat) (todo aa:List Nat),(∀ i∈todo,U i)→(∀ i∈aa,U i)→∀ i∈QF hp n todo aa,U i
 | 0,todo,aa,_,ha=>by simp only[QF];exact ha
 | n+1,[],aa,_,ha=>by simp only[QF];exact ha
 | n+1,id :: todo,aa,ht,ha=>by
  simp only[QF];split
  ·exact Zd4 h n todo aa (fun i hi=>ht i (by simp[hi])) ha
  ·cases hl:lkp hp id with
   | none=>simp only[Wj];exact Zd4 h n todo aa (fun i hi=>ht i (by simp[hi])) ha
   | some o=>
    simp only[Wj];refine Zd4 h n (todo++Wb o) (aa++[id]) (fun i hi=>?_) fun i hi=>?_
    ·rcases Kd.1 hi with hi | hi
     ·exact ht i (by simp[hi])
     ·exact h.closed id o (ht id (by simp)) hl i hi
    ·rcases Kd.1 hi with hi | hi
     ·exact ha i hi
     ·simp at hi;subst hi;exact ht i (by simp)
theorem ZhI (h:QP U hp hp'):∀ {ids:List Nat},(∀ i∈ids,U i)→JK hp ids=JK hp' ids
 | [],_=>rfl
 | i :: ids,hi=>by simp only[JK,h.same i (hi i (by simp)),ZhI h (ids:=ids) fun j hj=>hi j (Kq _ hj)]
theorem ZhJ (h:QP U hp hp') {base:Nat} {ids aa:List Nat} (hi:∀ i∈ids,U i) (hl:∀ i∈aa,U i) (keep:Bool) (r:AV) (out:List Zf):W1 keep hp base ids aa r out=W1 keep hp' base ids aa r out:=by
 unfold W1;have:Zfd hp ids out keep=Zfd hp' ids out keep:=by
  cases keep
  ·exact List.filter_congr fun i hm=>by rw[h.same i (hi i hm)]
  ·rfl
 have h2:∀ {l:List Nat},(∀ i∈l,U i)→(l.any fun i=>U8 (lkp hp i))=l.any fun i=>U8 (lkp hp' i):=by
  intro l
  induction l with
  | nil=>intro _;rfl
  | cons i l ih=>intro hl;simp only[List.any_cons];rw[h.same i (hl i (by simp)),ih fun k hk=>hl k (by simp[hk])]
 rw[this,h2 hl]
theorem Zrn (x:AV):∀ i∈Jo x,i∈Zg x:=by
 intro i hi;cases x<;>simp only[Jo,Zg] at hi ⊢ <;> first | exact hi | (simp at hi)
theorem ZpH (x:AV):∀ i∈Zaz x,i∈Zl x:=by
 intro i hi;cases x with
 | agg cs=>
  obtain⟨c,hc,hi⟩:=Kp.1 hi;exact Kp.2 ⟨c,hc,Zrn c i hi⟩
 | own id=>exact hi
 | ownv id a b=>exact hi
 | _=>simp[Zaz,Jo] at hi
theorem ZjO:∀ {xs ys:List AV},(∀ x∈xs,InU U x)→∀ i∈XU xs ys,U i
 | [],ys,_,i,hi=>by cases ys<;>simp[XU] at hi
 | x :: xs,[],_,i,hi=>by simp[XU] at hi
 | x :: xs,y :: ys,hx,i,hi=>by
  have ih:=ZjO (ys:=ys) fun z hz=>hx z (Kq _ hz);cases y<;>simp only[XU] at hi<;>first | exact ih i hi | skip
  rcases Kd.1 hi with hi | hi
  ·exact hx x (by simp) i (ZpH x i hi)
  ·exact ih i hi
theorem ZcQ (h:QP U hp hp') (rs:List Nat):∀ {ids:List Nat},(∀ i∈ids,U i)→Uy hp rs ids=Uy hp' rs ids
 | [],_=>rfl
 | i :: ids,hi=>by
  have ih:=ZcQ h rs (ids:=ids) fun k hk=>hi k (by simp[hk]);simp only[Uy,Le] at ih ⊢;rw[ih,h.1 i (hi i (by simp))]
theorem Zmk (h:QP U hp hp') (C:Orc) (m:Nat→Bool) (base f:Nat) {ab:List AV} (hx:∀ x∈ab,InU U x):Ju C m hp base f ab=Ju C m hp' base f ab:=by
 unfold Ju;rw[← ZhH h m 0 hx];cases ha:args hp m 0 ab with
 | none=>rfl
 | some as=>
  simp only[bnd];have ad:=ZoP 0 hx ha;have ht:∀ i∈as.flatMap Zl,U i:=fun i hi=>by
   obtain⟨y,hy,hi⟩:=Kp.1 hi;exact ad y hy i hi
  have hf:Xe hp=Xe hp':=rfl;rw[hf,← Jr h (Xe hp') (as.flatMap Zl) [] ht];have aa:=Zd4 h (Xe hp') (as.flatMap Zl) [] ht (by simp);unfold ZaL;rw[ZhI h aa,ZcQ h _ aa];congr 1
  congr 1
  funext q
  exact ZhJ h aa (ZjO hx) (m 99) q.1 q.2
theorem clo_in {f:Nat} {aa:List AV} (h:InU U (.clo f aa)):∀ x∈aa,x.atom=true→InU U x:=by
 intro x hx ha id ab;refine h id (Kp.2 ⟨x,hx,?_⟩);cases x<;>first | exact ab | (simp[AV.atom] at ha)
end
end Go.Abs
