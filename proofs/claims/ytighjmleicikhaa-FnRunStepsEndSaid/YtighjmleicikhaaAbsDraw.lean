/- Own text. -/
import Derived.Test.YtighjmleicikhaaAbsSound2
set_option linter.unusedVariables false
set_option linter.unusedSimpArgs false
namespace Go.Abs
open Go
theorem JY {sl sl' : Sl}:∀ {xs:List Opd},(∀ x∈xs,evO sl x=evO sl' x)→evL sl xs=evL sl' xs
 | [],_=>rfl
 | x :: xs,h=>by simp only[evL,h x (by simp),JY (xs:=xs) fun y hy=>h y (Ko _ hy)]
theorem Zit {sl sl' : Sl}:∀ {xs:List (Nat×Nat×Opd)},(∀ x∈xs.map (fun q=>q.2.2),evO sl x=evO sl' x)→evP sl xs=evP sl' xs
 | [],_=>rfl
 | (a,b,x) :: xs,h=>by simp only[evP,h x (by simp),Zit (xs:=xs) fun y hy=>h y (by simp only[Km,Ke];exact .inr hy)]
theorem ZbQ {sl sl' : Sl} {x:Option Opd} (h:∀ y∈Zmn x,evO sl y=evO sl' y):evM sl x=evM sl' x:=by
 cases x with
 | none=>rfl
 | some y=>simp only[evM,h y (by simp[Zmn])]
theorem QE (C:Orc) (M:Zg) {sl sl' : Sl} (hp:Hp) (base:Nat):∀ {c:COp},(∀ x∈Zu c,evO sl x=evO sl' x)→vop C M sl hp base c=vop C M sl' hp base c:=by
 intro c h;cases c<;>simp only[Zu] at h<;>simp only[vop]
 case move x=>rw[h x (by simp)]
 case assign s x=>rw[h x (by simp)]
 case pick c a b=>rw[h c (by simp),h a (by simp),h b (by simp)]
 case box x=>rw[h x (by simp)]
 case build zs ps=>rw[Zit h]
 case buildSl s xs=>rw[JY h]
 case load g s a=>rw[h a (by simp)]
 case store slc s a x=>rw[h a (by simp),h x (by simp)]
 case nilCheck x=>rw[h x (by simp)]
 case bin op eq x y=>rw[h x (by simp),h y (by simp)]
 case un op x=>rw[h x (by simp)]
 case eqA neg n x y=>rw[h x (by simp),h y (by simp)]
 case convI k x=>rw[h x (by simp)]
 case convS x=>rw[h x (by simp)]
 case fn f cs=>rw[JY h]
 case make s b z l c=>rw[h l (by simp),h c (by simp)]
 case slice s x lo hi=>rw[h x (by simp),ZbQ fun y hy=>h y (by simp[hy]),ZbQ (x:=hi) fun y hy=>h y (by simp[hy])]
 case sliceS x lo hi=>rw[h x (by simp),ZbQ fun y hy=>h y (by simp[hy]),ZbQ (x:=hi) fun y hy=>h y (by simp[hy])]
 case slice0 x hi mx=>rw[h x (by simp),h hi (by simp),h mx (by simp)]
 case shift off x=>rw[h x (by simp)]
 case part g s off x=>rw[h x (by simp)]
 case iaS s x i=>rw[h x (by simp),h i (by simp)]
 case iaA len s x i=>rw[h x (by simp),h i (by simp)]
 case ixS x i=>rw[h x (by simp),h i (by simp)]
 case ixA g s len x i=>rw[h x (by simp),h i (by simp)]
 case nth i x=>rw[h x (by simp)]
 case len x=>rw[h x (by simp)]
 case lenS x=>rw[h x (by simp)]
 case append s b str flat x y=>rw[h x (by simp),h y (by simp)]
 case min x y=>rw[h x (by simp),h y (by simp)]
 case max x y=>rw[h x (by simp),h y (by simp)]
 case slice3 s x lo hi mx=>rw[h x (by simp),h lo (by simp),h hi (by simp),h mx (by simp)]
 case clear s z x=>rw[h x (by simp)]
 case buildT s n xs=>rw[JY h]
 case appT s b f x y=>rw[h x (by simp),h y (by simp)]
 case asgT s n x=>rw[h x (by simp)]
 case makeT s b n z l c=>rw[h l (by simp),h c (by simp)]
 case call f as=>rw[h f (by simp),JY (xs:=as) fun y hy=>h y (Ko _ hy)]
section
variable {U:Nat→Prop} {hp hp' : Hp}
structure QH (U:Nat→Prop) (hp hp' : Hp):Prop where
 same:∀ id,U id→lkp hp id=lkp hp' id
 closed:∀ id o,U id→lkp hp id=some o→∀ i∈V8 o,U i
def InU (U:Nat→Prop) (x:AV):Prop:=∀ id∈Zo x,U id
theorem Zkw (h:QH U hp hp') {x:AV} (hx:InU U x) (g:Bool) (s:Nat):Vo hp g s x=Vo hp' g s x:=by
 cases x<;>simp only[Vo]
 case ptr id off=>rw[h.same id (hx id (by simp[Zo,Zp,Zf]))]
 case prow id sz i off=>rw[h.same id (hx id (by simp[Zo,Zp,Zf]))]
theorem Zec (h:QH U hp hp') {x:AV} (hx:InU U x) (sz n:Nat):Qd hp sz n x=Qd hp' sz n x:=by
 cases x<;>simp only[Qd]
 case d x=>cases x<;>rfl
 case own id=>rw[h.same id (hx id (by simp[Zo,Zp,Zf]))]
 case ownv id off m=>rw[h.same id (hx id (by simp[Zo,Zp,Zf]))]
theorem Zjq (h:QH U hp hp') {x:AV} (hx:InU U x) (s:Nat) (lo hi:Option AV):Yp hp s lo hi x=Yp hp' s lo hi x:=by
 cases x<;>simp only[Yp]
 case d x=>cases x<;>rfl
 case own id=>rw[h.same id (hx id (by simp[Zo,Zp,Zf]))]
 case ownv id off m=>rw[h.same id (hx id (by simp[Zo,Zp,Zf]))]
theorem ZcK (h:QH U hp hp') {x:AV} (hx:InU U x):JF hp x=JF hp' x:=by
 cases x<;>simp only[JF]
 case d x=>cases x<;>rfl
 case own id=>rw[h.same id (hx id (by simp[Zo,Zp,Zf]))]
theorem Zjr (h:QH U hp hp') {x:AV} (hx:InU U x) (s:Nat) (z:D):Zaq hp s z x=Zaq hp' s z x:=by
 cases x<;>simp only[Zaq]
 case ownv id off m=>rw[h.same id (hx id (by simp[Zo,Zp,Zf]))]
theorem Zkx (h:QH U hp hp') {x:AV} (hx:InU U x) (flat:Bool):Zbi hp flat x=Zbi hp' flat x:=by
 cases x<;>simp only[Zbi]
 case d x=>cases x<;>rfl
 case own id=>rw[h.same id (hx id (by simp[Zo,Zp,Zf]))]
 case ownv id off m=>rw[h.same id (hx id (by simp[Zo,Zp,Zf]))]
theorem Zky (h:QH U hp hp') {x:AV} (hx:InU U x) (sz b base:Nat) (aa:List Nat) (ys:List D) (ex:Bool):Zcy hp sz b base aa ys ex x=Zcy hp' sz b base aa ys ex x:=by
 cases x<;>simp only[Zcy]
 case own id=>rw[h.same id (hx id (by simp[Zo,Zp,Zf]))]
 case ownv id off m=>rw[h.same id (hx id (by simp[Zo,Zp,Zf]))]
theorem ZhQ (h:QH U hp hp') {x:AV} (hx:InU U x):Jt hp x=Jt hp' x:=by
 cases x<;>simp only[Jt]
 case own id=>rw[h.same id (hx id (by simp[Zo,Zp,Zf]))]
theorem ZhR (h:QH U hp hp') {x:AV} (hx:InU U x) (s b base id n:Nat) (ys:List D):Uy hp s b base id n ys x=Uy hp' s b base id n ys x:=by
 cases x<;>simp only[Uy]
 case own k=>rw[h.same k (hx k (by simp[Zo,Zp,Zf]))]
theorem Zcl (h:QH U hp hp') {x y:AV} (hx:InU U x) (hy:InU U y) (s b:Nat) (str flat:Bool) (base:Nat):Wh hp s b str flat base x y=Wh hp' s b str flat base x y:=by
 unfold Wh;rw[Zkx h hy];congr 1
 funext q
 rw[Zky h hx]
theorem Zdj (h:QH U hp hp') {x:AV} (hx:InU U x):Q8 hp x=Q8 hp' x:=by
 cases x<;>simp only[Q8]
 case own id=>rw[h.same id (hx id (by simp[Zo,Zp,Zf]))]
theorem Zjs (h:QH U hp hp') (ids:List Nat):QH U (meltIn hp ids) (meltIn hp' ids):=by
 refine⟨fun id aa=>by rw[VO,VO,h.same id aa],fun id o aa hl=>?_⟩;rw[VO] at hl;cases hl0:lkp hp id with
 | none=>rw[hl0] at hl;cases hl
 | some o0=>
  rw[hl0] at hl;simp only[KR,Option.some.injEq] at hl;subst hl;have:=h.closed id o0 aa hl0;split
  ·cases o0 with
   | tree s n xs l=>cases l<;>exact this
   | _=>exact this
  ·exact this
theorem Zcm (h:QH U hp hp') {x y:AV} (hx:InU U x) (hy:InU U y) (s b:Nat) (str flat:Bool) (base:Nat) (ms:List Nat):X2 hp s b str flat base x y ms=X2 hp' s b str flat base x y ms:=by
 cases ms with
 | nil=>exact Zcl h hx hy s b str flat base
 | cons i r=>simp only[X2];rw[Zcl (Zjs h (i :: r)) hx hy]
theorem Zf2 (h:QH U hp hp') {x y:AV} (hx:InU U x) (hy:InU U y) (s b base:Nat):appT hp s b base x y=appT hp' s b base x y:=by
 unfold appT;rw[ZhQ h hy];congr 2
 funext q
 rw[ZhR h hx]
theorem ZeS (h:QH U hp hp') {x:AV} (hx:∀ id∈Zf x,U id):Uo hp x=Uo hp' x:=by
 cases x<;>simp only[Uo]
 case own id=>rw[h.same id (hx id (by simp[Zf]))]
theorem Za7 (h:QH U hp hp'):∀ {xs:List AV},(∀ id∈xs.flatMap Zf,U id)→Yt hp xs=Yt hp' xs
 | [],_=>rfl
 | x :: xs,hx=>by
  simp only[Yt];rw[ZeS h fun id aa=>hx id (by simp only[KB,Kd];exact .inl aa),Za7 h (xs:=xs) fun id aa=>hx id (by simp only[KB,Kd];exact .inr aa)]
theorem Zkz (h:QH U hp hp') {n:Nat} {x:AV} (hx:∀ id∈Zf x,U id):Zbh hp n x=Zbh hp' n x:=by
 cases x<;>simp only[Zbh]
 case own id=>rw[h.same id (hx id (by simp[Zf]))]
theorem Za8 (h:QH U hp hp') {n:Nat}:∀ {xs:List AV},(∀ id∈xs.flatMap Zf,U id)→YL hp n xs=YL hp' n xs
 | [],_=>rfl
 | x :: xs,hx=>by
  simp only[YL];rw[Zkz h fun id aa=>hx id (by simp only[KB,Kd];exact .inl aa),Za8 h (xs:=xs) fun id aa=>hx id (by simp only[KB,Kd];exact .inr aa)]
theorem Zcn (h:QH U hp hp') {n s:Nat}:∀ {xs:List AV},(∀ x∈xs,InU U x)→VF hp n s xs=VF hp' n s xs
 | [],_=>rfl
 | x :: xs,hx=>by
  cases x<;>simp only[VF]
  rename_i cs;rw[Za8 h (hx (.agg cs) (by simp)),Zcn h (xs:=xs) fun x hm=>hx x (Ko _ hm)]
theorem Zjt (h:QH U hp hp') {base s n:Nat} {xs:List AV} (hx:∀ x∈xs,InU U x):buildT hp base s n xs=buildT hp' base s n xs:=by
 unfold buildT;rw[Zcn h hx]
theorem Zju (h:QH U hp hp') {x:AV} (hx:InU U x) (slc:List (Option Nat)) (s base:Nat) (vs:List AV) (hv:∀ id∈vs.flatMap Zf,U id):Uh hp slc s base vs x=Uh hp' slc s base vs x:=by
 cases x<;>simp only[Uh]
 case ptr id off=>rw[h.same id (hx id (by simp[Zo,Zp,Zf]))]
 case prow id sz i off=>
  rw[h.same id (hx id (by simp[Zo,Zp,Zf]))];unfold US;rw[Za7 h hv];have ht:∀ n,YL hp n vs=YL hp' n vs:=fun n=>Za8 h hv;simp only[ht]
theorem Zf3 {x:AV} (hx:InU U x):∀ id∈x.cells.flatMap Zf,U id:=by
 intro id aa;refine hx id ?_;cases x<;>simp only[AV.cells] at aa<;>first
  | (simp[Zf] at aa;done)
  | (obtain⟨c,hc,ab⟩:=Kn.1 aa;obtain⟨y,_,rfl⟩:=KU.1 hc;simp[Zf] at ab;done)
  | (simpa [Zo,Zp,Zf] using aa)
theorem ZlR (h:QH U hp hp') {x:AV} (hx:InU U x):give hp x=give hp' x:=by
 cases x with
 | agg cs=>simp only[give];rw[Za7 h hx]
 | own id=>exact ZeS h (x:=.own id) hx
 | _=>rfl
theorem Zco (h:QH U hp hp'):∀ {xs:List AV},(∀ x∈xs,InU U x)→Y3 hp xs=Y3 hp' xs
 | [],_=>rfl
 | x :: xs,hx=>by
  simp only[Y3];rw[ZlR h (hx x (by simp)),Zco h (xs:=xs) fun y hy=>hx y (Ko _ hy)]
theorem Zak (h:QH U hp hp') {x:AV} (hx:∀ id∈Zf x,U id):Zch hp x=Zch hp' x:=by
 cases x<;>simp only[Zch]
 case own id=>rw[h.same id (hx id (by simp[Zf]))]
 case ownv id off n=>rw[h.same id (hx id (by simp[Zf]))]
theorem Zf4 (h:QH U hp hp'):∀ {xs:List AV},(∀ id∈xs.flatMap Zf,U id)→Qb (Zch hp) xs=Qb (Zch hp') xs
 | [],_=>rfl
 | x :: xs,hx=>by
  simp only[Qb];rw[Zak h fun id aa=>hx id (by simp only[KB,Kd];exact .inl aa),Zf4 h (xs:=xs) fun id aa=>hx id (by simp only[KB,Kd];exact .inr aa)]
theorem Ziu (h:QH U hp hp') {x:AV} (hx:InU U x):toD hp x=toD hp' x:=by
 cases x with
 | agg cs=>simp only[toD];rw[Zf4 h hx]
 | own id=>exact Zak h (x:=.own id) hx
 | ownv id off n=>exact Zak h (x:=.ownv id off n) hx
 | _=>rfl
theorem ZlS (h:QH U hp hp') (m:Bool) {x:AV} (hx:InU U x):Jl hp m x=Jl hp' m x:=by
 cases x with
 | own id=>
  simp only[Jl];cases m
  ·simp only[Zar];rw[Zak h (x:=.own id) hx]
  ·rfl
 | agg cs=>
  simp only[Jl];cases m
  ·simp only[Zas];rw[Ziu h hx]
  ·rfl
 | ownv id off n=>simp only[Jl];rw[Ziu h hx]
 | _=>rfl
theorem Zf5 (h:QH U hp hp') (m:Nat→Bool):∀ {xs:List AV} (i:Nat),(∀ x∈xs,InU U x)→args hp m i xs=args hp' m i xs
 | [],i,_=>rfl
 | x :: xs,i,hx=>by
  simp only[args];rw[ZlS h (m i) (hx x (by simp)),Zf5 h m (xs:=xs) (i+1) fun y hy=>hx y (Ko _ hy)]
theorem Zqf {m:Bool} {x y:AV} (hx:InU U x) (h:Jl hp m x=some y):InU U y:=by
 unfold Jl at h;split at h
 ·cases h;exact hx
 ·cases h;exact hx
 ·cases h;exact hx
 ·cases h;exact hx
 ·cases h;exact hx
 ·rename_i id;cases m
  ·simp only[Zar,asD] at h;obtain⟨d,_,h⟩:=Za h;cases h;exact fun id aa=>by simp[Zo,Zp,Zf] at aa
  ·simp only[Zar] at h;cases h;exact hx
 ·cases m
  ·simp only[Zbj] at h;cases h;exact fun id aa=>by simp[Zo,Zp,Zf] at aa
  ·simp only[Zbj] at h;cases h;exact hx
 ·cases h;exact hx
 ·cases m
  ·simp only[Zas,asD] at h;obtain⟨d,_,h⟩:=Za h;cases h;exact fun id aa=>by simp[Zo,Zp,Zf] at aa
  ·simp only[Zas] at h;split at h
   ·cases h
   ·cases h;exact hx
 ·obtain⟨d,_,h⟩:=Za h;cases h;exact fun id aa=>by simp[Zo,Zp,Zf] at aa
theorem Zm0 {m:Nat→Bool}:∀ {xs ys:List AV} (i:Nat),(∀ x∈xs,InU U x)→args hp m i xs=some ys→∀ y∈ys,InU U y
 | [],ys,i,_,h=>by simp only[args] at h;cases h;simp
 | x :: xs,ys,i,hx,h=>by
  simp only[args] at h;obtain⟨y,h1,h⟩:=Za h;obtain⟨aa,h2,h⟩:=Za h;cases h;intro z hz;rcases Ke.1 hz with rfl | hz
  ·exact Zqf (hx x (by simp)) h1
  ·exact Zm0 (i+1) (fun y hy=>hx y (by simp[hy])) h2 z hz
theorem Jp (h:QH U hp hp'):∀ (n:Nat) (todo aa:List Nat),(∀ i∈todo,U i)→Qz hp n todo aa=Qz hp' n todo aa
 | 0,todo,aa,_=>by simp only[Qz]
 | n+1,[],aa,_=>by simp only[Qz]
 | n+1,id :: todo,aa,ht=>by
  simp only[Qz];rw[Jp h n todo aa fun i hi=>ht i (by simp[hi])];rw[← h.same id (ht id (by simp))];cases hl:lkp hp id with
  | none=>simp only[Wi];rw[Jp h n todo aa fun i hi=>ht i (by simp[hi])]
  | some o=>
   simp only[Wi];rw[Jp h n (todo++V8 o) (aa++[id]) fun i hi=>by
    rcases Kd.1 hi with hi | hi
    ·exact ht i (by simp[hi])
    ·exact h.closed id o (ht id (by simp)) hl i hi]
theorem Zdk (h:QH U hp hp'):∀ (n:Nat) (todo aa:List Nat),(∀ i∈todo,U i)→(∀ i∈aa,U i)→∀ i∈Qz hp n todo aa,U i
 | 0,todo,aa,_,ha=>by simp only[Qz];exact ha
 | n+1,[],aa,_,ha=>by simp only[Qz];exact ha
 | n+1,id :: todo,aa,ht,ha=>by
  simp only[Qz];split
  ·exact Zdk h n todo aa (fun i hi=>ht i (by simp[hi])) ha
  ·cases hl:lkp hp id with
   | none=>simp only[Wi];exact Zdk h n todo aa (fun i hi=>ht i (by simp[hi])) ha
   | some o=>
    simp only[Wi];refine Zdk h n (todo++V8 o) (aa++[id]) (fun i hi=>?_) fun i hi=>?_
    ·rcases Kd.1 hi with hi | hi
     ·exact ht i (by simp[hi])
     ·exact h.closed id o (ht id (by simp)) hl i hi
    ·rcases Kd.1 hi with hi | hi
     ·exact ha i hi
     ·simp at hi;subst hi;exact ht i (by simp)
theorem Zf6 (h:QH U hp hp'):∀ {ids:List Nat},(∀ i∈ids,U i)→JI hp ids=JI hp' ids
 | [],_=>rfl
 | i :: ids,hi=>by simp only[JI,h.same i (hi i (by simp)),Zf6 h (ids:=ids) fun j hj=>hi j (Ko _ hj)]
theorem Zf7 (h:QH U hp hp') {base:Nat} {ids aa:List Nat} (hi:∀ i∈ids,U i) (hl:∀ i∈aa,U i) (keep:Bool) (r:AV) (out:List Zh):W7 keep hp base ids aa r out=W7 keep hp' base ids aa r out:=by
 unfold W7;have:Zek hp ids out keep=Zek hp' ids out keep:=by
  cases keep
  ·exact List.filter_congr fun i hm=>by rw[h.same i (hi i hm)]
  ·rfl
 have h2:∀ {l:List Nat},(∀ i∈l,U i)→(l.any fun i=>UY (lkp hp i))=l.any fun i=>UY (lkp hp' i):=by
  intro l
  induction l with
  | nil=>intro _;rfl
  | cons i l ih=>intro hl;simp only[List.any_cons];rw[h.same i (hl i (by simp)),ih fun k hk=>hl k (by simp[hk])]
 rw[this,h2 hl]
theorem ZoT (x:AV):∀ i∈Jm x,i∈Zf x:=by
 intro i hi;cases x<;>simp only[Jm,Zf] at hi ⊢ <;> first | exact hi | (simp at hi)
theorem ZnJ (x:AV):∀ i∈Zah x,i∈Zo x:=by
 intro i hi;cases x with
 | agg cs=>
  obtain⟨c,hc,hi⟩:=Kn.1 hi;exact Kn.2 ⟨c,hc,ZoT c i hi⟩
 | own id=>exact hi
 | ownv id a b=>exact hi
 | _=>simp[Zah,Jm] at hi
theorem Ziv:∀ {xs ys:List AV},(∀ x∈xs,InU U x)→∀ i∈XI xs ys,U i
 | [],ys,_,i,hi=>by cases ys<;>simp[XI] at hi
 | x :: xs,[],_,i,hi=>by simp[XI] at hi
 | x :: xs,y :: ys,hx,i,hi=>by
  have ih:=Ziv (ys:=ys) fun z hz=>hx z (Ko _ hz);cases y<;>simp only[XI] at hi<;>first | exact ih i hi | skip
  rcases Kd.1 hi with hi | hi
  ·exact hx x (by simp) i (ZnJ x i hi)
  ·exact ih i hi
theorem Zcp (h:QH U hp hp') (rs:List Nat):∀ {ids:List Nat},(∀ i∈ids,U i)→Ux hp rs ids=Ux hp' rs ids
 | [],_=>rfl
 | i :: ids,hi=>by
  have ih:=Zcp h rs (ids:=ids) fun k hk=>hi k (by simp[hk]);simp only[Ux,Lk] at ih ⊢;rw[ih,h.1 i (hi i (by simp))]
theorem ZkA (h:QH U hp hp') (C:Orc) (m:Nat→Bool) (base f:Nat) {ab:List AV} (hx:∀ x∈ab,InU U x):Js C m hp base f ab=Js C m hp' base f ab:=by
 unfold Js;rw[← Zf5 h m 0 hx];cases ha:args hp m 0 ab with
 | none=>rfl
 | some as=>
  simp only[bnd];have ad:=Zm0 0 hx ha;have ht:∀ i∈as.flatMap Zo,U i:=fun i hi=>by
   obtain⟨y,hy,hi⟩:=Kn.1 hi;exact ad y hy i hi
  have hf:Q7 hp=Q7 hp':=rfl;rw[hf,← Jp h (Q7 hp') (as.flatMap Zo) [] ht];have aa:=Zdk h (Q7 hp') (as.flatMap Zo) [] ht (by simp);unfold Zat;rw[Zf6 h aa,Zcp h _ aa];congr 1
  congr 1
  funext q
  exact Zf7 h aa (Ziv hx) (m 99) q.1 q.2
theorem clo_in {f:Nat} {aa:List AV} (h:InU U (.clo f aa)):∀ x∈aa,x.atom=true→InU U x:=by
 intro x hx ha id ab;refine h id (Kn.2 ⟨x,hx,?_⟩);cases x<;>first | exact ab | (simp[AV.atom] at ha)
end
end Go.Abs
