import Derived.Test.YtfnegoimdljanaaGreatDoorAbsSound3
set_option linter.all false
namespace Go.Abs
open Go
theorem ZeP {sl sl' : Sl}:∀ {xs:List Opd},(∀ x∈xs,evO sl x=evO sl' x)→evL sl xs=evL sl' xs
 | [],_=>rfl
 | x :: xs,h=>by simp only[evL,h x (by simp),ZeP (xs:=xs) fun y hy=>h y (KA _ hy)]
theorem Zt8 {sl sl' : Sl}:∀ {xs:List (Nat×Nat×Opd)},(∀ x∈xs.map (fun q=>q.2.2),evO sl x=evO sl' x)→evP sl xs=evP sl' xs
 | [],_=>rfl
 | (a,b,x) :: xs,h=>by simp only[evP,h x (by simp),Zt8 (xs:=xs) fun y hy=>h y (by simp only[Kh,Ke];exact .inr hy)]
theorem Zi5 {sl sl' : Sl} {x:Option Opd} (h:∀ y∈ZlV x,evO sl y=evO sl' y):evM sl x=evM sl' x:=by
 cases x with
 | none=>rfl
 | some y=>simp only[evM,h y (by simp[ZlV])]
theorem Xw (C:Orc) (M:Zr) {sl sl' : Sl} (hp:Hp) (base:Nat):∀ {c:COp},(∀ x∈ZF c,evO sl x=evO sl' x)→vop C M sl hp base c=vop C M sl' hp base c:=by
 intro c h;cases c<;>simp only[ZF] at h<;>simp only[vop]
 case move x=>rw[h x (by simp)]
 case assign s x=>rw[h x (by simp)]
 case pick c a b=>rw[h c (by simp),h a (by simp),h b (by simp)]
 case box x=>rw[h x (by simp)]
 case build zs ps=>rw[Zt8 h]
 case buildSl s xs=>rw[ZeP h]
 case load g s a=>rw[h a (by simp)]
 case store slc s a x=>rw[h a (by simp),h x (by simp)]
 case nilCheck x=>rw[h x (by simp)]
 case bin op eq x y=>rw[h x (by simp),h y (by simp)]
 case un op x=>rw[h x (by simp)]
 case eqA neg n x y=>rw[h x (by simp),h y (by simp)]
 case convI k x=>rw[h x (by simp)]
 case convS x=>rw[h x (by simp)]
 case fn f cs=>rw[ZeP h]
 case make s b z l c=>rw[h l (by simp),h c (by simp)]
 case slice s x lo hi=>rw[h x (by simp),Zi5 fun y hy=>h y (by simp[hy]),Zi5 (x:=hi) fun y hy=>h y (by simp[hy])]
 case sliceS x lo hi=>rw[h x (by simp),Zi5 fun y hy=>h y (by simp[hy]),Zi5 (x:=hi) fun y hy=>h y (by simp[hy])]
 case slice0 x hi mx=>rw[h x (by simp),h hi (by simp),h mx (by simp)]
 case shift off x=>rw[h x (by simp)]
 case part g s off x=>rw[h x (by simp)]
 case iaS s x i=>rw[h x (by simp),h i (by simp)]
 case iaA len s x i=>rw[h x (by simp),h i (by simp)]
 case ixS x i=>rw[h x (by simp),h i (by simp)]
 case ixA g s len x i=>rw[h x (by simp),h i (by simp)]
 case nth i x=>rw[h x (by simp)]
 case len x=>rw[h x (by simp)]
 case lenS x=>rw[h x (by simp)]
 case append s b str flat x y=>rw[h x (by simp),h y (by simp)]
 case min x y=>rw[h x (by simp),h y (by simp)]
 case max x y=>rw[h x (by simp),h y (by simp)]
 case slice3 s x lo hi mx=>rw[h x (by simp),h lo (by simp),h hi (by simp),h mx (by simp)]
 case clear s z x=>rw[h x (by simp)]
 case buildT s n xs=>rw[ZeP h]
 case appT s b f x y=>rw[h x (by simp),h y (by simp)]
 case asgT s n x=>rw[h x (by simp)]
 case makeT s b n z l c=>rw[h l (by simp),h c (by simp)]
 case call f as1=>rw[h f (by simp),ZeP (xs:=as1) fun y hy=>h y (KA _ hy)]
section
variable {U:Nat→Prop} {hp hp' : Hp}
structure Xz (U:Nat→Prop) (hp hp' : Hp):Prop where
 same:∀ id,U id→lkp hp id=lkp hp' id
 closed:∀ id o,U id→lkp hp id=some o→∀ i∈Jb o,U i
def InU (U:Nat→Prop) (x:AV):Prop:=∀ id∈Zy x,U id
theorem ZwS (h:Xz U hp hp') {x:AV} (hx:InU U x) (g:Bool) (s:Nat):Ue hp g s x=Ue hp' g s x:=by
 cases x<;>simp only[Ue]
 case ptr id off=>rw[h.same id (hx id (by simp[Zy,ZC,Zq]))]
 case prow id sz i off=>rw[h.same id (hx id (by simp[Zy,ZC,Zq]))]
theorem Znm (h:Xz U hp hp') {x:AV} (hx:InU U x) (sz n:Nat):QK hp sz n x=QK hp' sz n x:=by
 cases x<;>simp only[QK]
 case d x=>cases x<;>rfl
 case own id=>rw[h.same id (hx id (by simp[Zy,ZC,Zq]))]
 case ownv id off m=>rw[h.same id (hx id (by simp[Zy,ZC,Zq]))]
theorem ZvD (h:Xz U hp hp') {x:AV} (hx:InU U x) (s:Nat) (lo hi:Option AV):VY hp s lo hi x=VY hp' s lo hi x:=by
 cases x<;>simp only[VY]
 case d x=>cases x<;>rfl
 case own id=>rw[h.same id (hx id (by simp[Zy,ZC,Zq]))]
 case ownv id off m=>rw[h.same id (hx id (by simp[Zy,ZC,Zq]))]
theorem ZkE (h:Xz U hp hp') {x:AV} (hx:InU U x):ZdQ hp x=ZdQ hp' x:=by
 cases x<;>simp only[ZdQ]
 case d x=>cases x<;>rfl
 case own id=>rw[h.same id (hx id (by simp[Zy,ZC,Zq]))]
theorem ZvE (h:Xz U hp hp') {x:AV} (hx:InU U x) (s:Nat) (z:D):ZfD hp s z x=ZfD hp' s z x:=by
 cases x<;>simp only[ZfD]
 case ownv id off m=>rw[h.same id (hx id (by simp[Zy,ZC,Zq]))]
theorem ZwT (h:Xz U hp hp') {x:AV} (hx:InU U x) (flat:Bool):ZhE hp flat x=ZhE hp' flat x:=by
 cases x<;>simp only[ZhE]
 case d x=>cases x<;>rfl
 case own id=>rw[h.same id (hx id (by simp[Zy,ZC,Zq]))]
 case ownv id off m=>rw[h.same id (hx id (by simp[Zy,ZC,Zq]))]
theorem ZwU (h:Xz U hp hp') {x:AV} (hx:InU U x) (sz b base:Nat) (aa:List Nat) (ys:List D) (ex:Bool):ZjW hp sz b base aa ys ex x=ZjW hp' sz b base aa ys ex x:=by
 cases x<;>simp only[ZjW]
 case own id=>rw[h.same id (hx id (by simp[Zy,ZC,Zq]))]
 case ownv id off m=>rw[h.same id (hx id (by simp[Zy,ZC,Zq]))]
theorem Zth (h:Xz U hp hp') {x:AV} (hx:InU U x):Zds hp x=Zds hp' x:=by
 cases x<;>simp only[Zds]
 case own id=>rw[h.same id (hx id (by simp[Zy,ZC,Zq]))]
theorem Zti (h:Xz U hp hp') {x:AV} (hx:InU U x) (s b base id n:Nat) (ys:List D):Zbv hp s b base id n ys x=Zbv hp' s b base id n ys x:=by
 cases x<;>simp only[Zbv]
 case own k=>rw[h.same k (hx k (by simp[Zy,ZC,Zq]))]
theorem ZjL (h:Xz U hp hp') {x y:AV} (hx:InU U x) (hy:InU U y) (s b:Nat) (str flat:Bool) (base:Nat):Jg hp s b str flat base x y=Jg hp' s b str flat base x y:=by
 unfold Jg;rw[ZwT h hy];congr 1
 funext q
 rw[ZwU h hx]
theorem Zly (h:Xz U hp hp') {x:AV} (hx:InU U x):X7 hp x=X7 hp' x:=by
 cases x<;>simp only[X7]
 case own id=>rw[h.same id (hx id (by simp[Zy,ZC,Zq]))]
theorem ZvF (h:Xz U hp hp') (ids:List Nat):Xz U (meltIn hp ids) (meltIn hp' ids):=by
 refine⟨fun id aa=>by rw[UI,UI,h.same id aa],fun id o aa hl=>?_⟩;rw[UI] at hl;cases hl0:lkp hp id with
 | none=>rw[hl0] at hl;cases hl
 | some o0=>
  rw[hl0] at hl;simp only[Ld,Option.some.injEq] at hl;subst hl;have:=h.closed id o0 aa hl0;split
  ·cases o0 with
   | tree s n xs l=>cases l<;>exact this
   | _=>exact this
  ·exact this
theorem ZjM (h:Xz U hp hp') {x y:AV} (hx:InU U x) (hy:InU U y) (s b:Nat) (str flat:Bool) (base:Nat) (ms:List Nat):Vu hp s b str flat base x y ms=Vu hp' s b str flat base x y ms:=by
 cases ms with
 | nil=>exact ZjL h hx hy s b str flat base
 | cons i r=>simp only[Vu];rw[ZjL (ZvF h (i :: r)) hx hy]
theorem ZqI (h:Xz U hp hp') {x y:AV} (hx:InU U x) (hy:InU U y) (s b base:Nat):appT hp s b base x y=appT hp' s b base x y:=by
 unfold appT;rw[Zth h hy];congr 2
 funext q
 rw[Zti h hx]
theorem ZoE (h:Xz U hp hp') {x:AV} (hx:∀ id∈Zq x,U id):Zbn hp x=Zbn hp' x:=by
 cases x<;>simp only[Zbn]
 case own id=>rw[h.same id (hx id (by simp[Zq]))]
theorem Zhs (h:Xz U hp hp'):∀ {xs:List AV},(∀ id∈xs.flatMap Zq,U id)→V3 hp xs=V3 hp' xs
 | [],_=>rfl
 | x :: xs,hx=>by
  simp only[V3];rw[ZoE h fun id aa=>hx id (by simp only[KT,Kj];exact .inl aa),Zhs h (xs:=xs) fun id aa=>hx id (by simp only[KT,Kj];exact .inr aa)]
theorem ZwV (h:Xz U hp hp') {n:Nat} {x:AV} (hx:∀ id∈Zq x,U id):ZhD hp n x=ZhD hp' n x:=by
 cases x<;>simp only[ZhD]
 case own id=>rw[h.same id (hx id (by simp[Zq]))]
theorem Zdn (h:Xz U hp hp') {n:Nat}:∀ {xs:List AV},(∀ id∈xs.flatMap Zq,U id)→V4 hp n xs=V4 hp' n xs
 | [],_=>rfl
 | x :: xs,hx=>by
  simp only[V4];rw[ZwV h fun id aa=>hx id (by simp only[KT,Kj];exact .inl aa),Zdn h (xs:=xs) fun id aa=>hx id (by simp only[KT,Kj];exact .inr aa)]
theorem ZdO (h:Xz U hp hp') {n s:Nat}:∀ {xs:List AV},(∀ x∈xs,InU U x)→Vt hp n s xs=Vt hp' n s xs
 | [],_=>rfl
 | x :: xs,hx=>by
  cases x<;>simp only[Vt]
  case agg cs=>rw[Zdn h (hx (.agg cs) (by simp)),ZdO h (xs:=xs) fun x hm=>hx x (KA _ hm)]
  case own id=>rw[Zdn h (xs:=[.own id]) (fun i hi=>hx (.own id) (by simp) i (by simpa [Zy,ZC,Zq] using hi)),ZdO h (xs:=xs) fun x hm=>hx x (KA _ hm)]
theorem ZvG (h:Xz U hp hp') {base s n:Nat} {xs:List AV} (hx:∀ x∈xs,InU U x):buildT hp base s n xs=buildT hp' base s n xs:=by
 unfold buildT;rw[ZdO h hx]
theorem ZvH (h:Xz U hp hp') {x:AV} (hx:InU U x) (slc:List (Option Nat)) (s base:Nat) (vs:List AV) (hv:∀ id∈vs.flatMap Zq,U id):ZaY hp slc s base vs x=ZaY hp' slc s base vs x:=by
 cases x<;>simp only[ZaY]
 case ptr id off=>rw[h.same id (hx id (by simp[Zy,ZC,Zq]))]
 case prow id sz i off=>
  rw[h.same id (hx id (by simp[Zy,ZC,Zq]))];unfold Zb7;rw[Zhs h hv];have ht:∀ n,V4 hp n vs=V4 hp' n vs:=fun n=>Zdn h hv;simp only[ht]
theorem ZqJ {x:AV} (hx:InU U x):∀ id∈x.cells.flatMap Zq,U id:=by
 intro id aa;refine hx id ?_;cases x<;>simp only[AV.cells] at aa<;>first
  | (simp[Zq] at aa;done)
  | (obtain⟨c,hc,ab⟩:=KC.1 aa;obtain⟨y,_,rfl⟩:=Ll.1 hc;simp[Zq] at ab;done)
  | (simpa [Zy,ZC,Zq] using aa)
theorem ZyU (h:Xz U hp hp') {x:AV} (hx:InU U x):give hp x=give hp' x:=by
 cases x with
 | agg cs=>simp only[give];rw[Zhs h hx]
 | own id=>exact ZoE h (x:=.own id) hx
 | _=>rfl
theorem ZjN (h:Xz U hp hp'):∀ {xs:List AV},(∀ x∈xs,InU U x)→WL hp xs=WL hp' xs
 | [],_=>rfl
 | x :: xs,hx=>by
  simp only[WL];rw[ZyU h (hx x (by simp)),ZjN h (xs:=xs) fun y hy=>hx y (KA _ hy)]
theorem Zft (h:Xz U hp hp') {x:AV} (hx:∀ id∈Zq x,U id):ZjG hp x=ZjG hp' x:=by
 cases x<;>simp only[ZjG]
 case own id=>rw[h.same id (hx id (by simp[Zq]))]
 case ownv id off n=>rw[h.same id (hx id (by simp[Zq]))]
theorem ZqK (h:Xz U hp hp'):∀ {xs:List AV},(∀ id∈xs.flatMap Zq,U id)→QJ (ZjG hp) xs=QJ (ZjG hp') xs
 | [],_=>rfl
 | x :: xs,hx=>by
  simp only[QJ];rw[Zft h fun id aa=>hx id (by simp only[KT,Kj];exact .inl aa),ZqK h (xs:=xs) fun id aa=>hx id (by simp only[KT,Kj];exact .inr aa)]
theorem Zt9 (h:Xz U hp hp') {x:AV} (hx:InU U x):toD hp x=toD hp' x:=by
 cases x with
 | agg cs=>simp only[toD];rw[ZqK h hx]
 | own id=>exact Zft h (x:=.own id) hx
 | ownv id off n=>exact Zft h (x:=.ownv id off n) hx
 | _=>rfl
theorem ZyV (h:Xz U hp hp') (m:Bool) {x:AV} (hx:InU U x):Zdh hp m x=Zdh hp' m x:=by
 cases x with
 | own id=>
  simp only[Zdh];cases m
  ·simp only[ZfE];rw[Zft h (x:=.own id) hx]
  ·rfl
 | agg cs=>
  simp only[Zdh];cases m
  ·simp only[ZfF];rw[Zt9 h hx]
  ·rfl
 | ownv id off n=>simp only[Zdh];rw[Zt9 h hx]
 | _=>rfl
theorem ZqL (h:Xz U hp hp') (m:Nat→Bool):∀ {xs:List AV} (i:Nat),(∀ x∈xs,InU U x)→args hp m i xs=args hp' m i xs
 | [],i,_=>rfl
 | x :: xs,i,hx=>by
  simp only[args];rw[ZyV h (m i) (hx x (by simp)),ZqL h m (xs:=xs) (i+1) fun y hy=>hx y (KA _ hy)]
theorem ZEo {m:Bool} {x y:AV} (hx:InU U x) (h:Zdh hp m x=some y):InU U y:=by
 unfold Zdh at h;split at h
 ·cases h;exact hx
 ·cases h;exact hx
 ·cases h;exact hx
 ·cases h;exact hx
 ·cases h;exact hx
 ·rename_i id;cases m
  ·simp only[ZfE,asD] at h;obtain⟨d,_,h⟩:=Za h;cases h;exact fun id aa=>by simp[Zy,ZC,Zq] at aa
  ·simp only[ZfE] at h;cases h;exact hx
 ·cases m
  ·simp only[ZhF] at h;cases h;exact fun id aa=>by simp[Zy,ZC,Zq] at aa
  ·simp only[ZhF] at h;cases h;exact hx
 ·cases h;exact hx
 ·cases m
  ·simp only[ZfF,asD] at h;obtain⟨d,_,h⟩:=Za h;cases h;exact fun id aa=>by simp[Zy,ZC,Zq] at aa
  ·simp only[ZfF] at h;split at h
   ·cases h
   ·cases h;exact hx
 ·obtain⟨d,_,h⟩:=Za h;cases h;exact fun id aa=>by simp[Zy,ZC,Zq] at aa
theorem ZAr {m:Nat→Bool}:∀ {xs ys:List AV} (i:Nat),(∀ x∈xs,InU U x)→args hp m i xs=some ys→∀ y∈ys,InU U y
 | [],ys,i,_,h=>by simp only[args] at h;cases h;simp
 | x :: xs,ys,i,hx,h=>by
  simp only[args] at h;obtain⟨y,h1,h⟩:=Za h;obtain⟨aa,h2,h⟩:=Za h;cases h;intro z hz;rcases Ke.1 hz with rfl | hz
  ·exact ZEo (hx x (by simp)) h1
  ·exact ZAr (i+1) (fun y hy=>hx y (by simp[hy])) h2 z hz
theorem Zdo (h:Xz U hp hp'):∀ (n:Nat) (todo aa:List Nat),(∀ i∈todo,U i)→Xi hp n todo aa=Xi hp' n todo aa
 | 0,todo,aa,_=>by simp only[Xi]
 | n+1,[],aa,_=>by simp only[Xi]
 | n+1,id :: todo,aa,ht=>by
  simp only[Xi];rw[Zdo h n todo aa fun i hi=>ht i (by simp[hi])];rw[← h.same id (ht id (by simp))];cases hl:lkp hp id with
  | none=>simp only[Jh];rw[Zdo h n todo aa fun i hi=>ht i (by simp[hi])]
  | some o=>
   simp only[Jh];rw[Zdo h n (todo++Jb o) (aa++[id]) fun i hi=>by
    rcases Kj.1 hi with hi | hi
    ·exact ht i (by simp[hi])
    ·exact h.closed id o (ht id (by simp)) hl i hi]
theorem Zlz (h:Xz U hp hp'):∀ (n:Nat) (todo aa:List Nat),(∀ i∈todo,U i)→(∀ i∈aa,U i)→∀ i∈Xi hp n todo aa,U i
 | 0,todo,aa,_,ha=>by simp only[Xi];exact ha
 | n+1,[],aa,_,ha=>by simp only[Xi];exact ha
 | n+1,id :: todo,aa,ht,ha=>by
  simp only[Xi];split
  ·exact Zlz h n todo aa (fun i hi=>ht i (by simp[hi])) ha
  ·cases hl:lkp hp id with
   | none=>simp only[Jh];exact Zlz h n todo aa (fun i hi=>ht i (by simp[hi])) ha
   | some o=>
    simp only[Jh];refine Zlz h n (todo++Jb o) (aa++[id]) (fun i hi=>?_) fun i hi=>?_
    ·rcases Kj.1 hi with hi | hi
     ·exact ht i (by simp[hi])
     ·exact h.closed id o (ht id (by simp)) hl i hi
    ·rcases Kj.1 hi with hi | hi
     ·exact ha i hi
     ·simp at hi;subst hi;exact ht i (by simp)
theorem ZqM (h:Xz U hp hp'):∀ {ids:List Nat},(∀ i∈ids,U i)→ZdR hp ids=ZdR hp' ids
 | [],_=>rfl
 | i :: ids,hi=>by simp only[ZdR,h.same i (hi i (by simp)),ZqM h (ids:=ids) fun j hj=>hi j (KA _ hj)]
theorem ZqN (h:Xz U hp hp') {base:Nat} {ids aa:List Nat} (hi:∀ i∈ids,U i) (hl:∀ i∈aa,U i) (keep:Bool) (r:AV) (out:List Zm):ZaJ keep hp base ids aa r out=ZaJ keep hp' base ids aa r out:=by
 unfold ZaJ;have:ZkL hp ids out keep=ZkL hp' ids out keep:=by
  cases keep
  ·exact List.filter_congr fun i hm=>by rw[h.same i (hi i hm)]
  ·rfl
 have h2:∀ {l:List Nat},(∀ i∈l,U i)→(l.any fun i=>Zcd (lkp hp i))=l.any fun i=>Zcd (lkp hp' i):=by
  intro l
  induction l with
  | nil=>intro _;rfl
  | cons i l ih=>intro hl;simp only[List.any_cons];rw[h.same i (hl i (by simp)),ih fun k hk=>hl k (by simp[hk])]
 rw[this,h2 hl]
theorem ZCW (x:AV):∀ i∈Zdp x,i∈Zq x:=by
 intro i hi;cases x<;>simp only[Zdp,Zq] at hi ⊢ <;> first | exact hi | (simp at hi)
theorem ZBt (x:AV):∀ i∈ZfB x,i∈Zy x:=by
 intro i hi;cases x with
 | agg cs=>
  obtain⟨c,hc,hi⟩:=KC.1 hi;exact KC.2 ⟨c,hc,ZCW c i hi⟩
 | own id=>exact hi
 | ownv id a b=>exact hi
 | _=>simp[ZfB,Zdp] at hi
theorem Zua:∀ {xs ys:List AV},(∀ x∈xs,InU U x)→∀ i∈YV xs ys,U i
 | [],ys,_,i,hi=>by cases ys<;>simp[YV] at hi
 | x :: xs,[],_,i,hi=>by simp[YV] at hi
 | x :: xs,y :: ys,hx,i,hi=>by
  have ih:=Zua (ys:=ys) fun z hz=>hx z (KA _ hz);cases y<;>simp only[YV] at hi<;>first | exact ih i hi | skip
  rcases Kj.1 hi with hi | hi
  ·exact hx x (by simp) i (ZBt x i hi)
  ·exact ih i hi
theorem ZjO (h:Xz U hp hp') (rs:List Nat):∀ {ids:List Nat},(∀ i∈ids,U i)→Zbu hp rs ids=Zbu hp' rs ids
 | [],_=>rfl
 | i :: ids,hi=>by
  have ih:=ZjO h rs (ids:=ids) fun k hk=>hi k (by simp[hk]);simp only[Zbu,LH] at ih ⊢;rw[ih,h.1 i (hi i (by simp))]
theorem ZwW (h:Xz U hp hp') (C:Orc) (m:Nat→Bool) (base f:Nat) {ab:List AV} (hx:∀ x∈ab,InU U x):Zdr C m hp base f ab=Zdr C m hp' base f ab:=by
 unfold Zdr;rw[← ZqL h m 0 hx];cases ha:args hp m 0 ab with
 | none=>rfl
 | some as1=>
  simp only[bnd];have ad:=ZAr 0 hx ha;have ht:∀ i∈as1.flatMap Zy,U i:=fun i hi=>by
   obtain⟨y,hy,hi⟩:=KC.1 hi;exact ad y hy i hi
  have hf:X6 hp=X6 hp':=rfl;rw[hf,← Zdo h (X6 hp') (as1.flatMap Zy) [] ht];have aa:=Zlz h (X6 hp') (as1.flatMap Zy) [] ht (by simp);unfold ZfG;rw[ZqM h aa,ZjO h _ aa];congr 1
  congr 1
  funext q
  exact ZqN h aa (Zua hx) (m 99) q.1 q.2
end
end Go.Abs
namespace Go.Abs
open Go
section
variable {U:Nat→Prop} {hp hp' : Hp}
def ZlA (U:Nat→Prop) (x:AV):Prop:=InU U x∧∀ f caps,x=.clo f caps→∀ c∈caps,InU U c
theorem Zi6 {sl:Sl}:∀ {xs:List Opd} {v:AV},v∈evL sl xs→∃ x∈xs,v=evO sl x
 | [],v,h=>by simp[evL] at h
 | x :: xs,v,h=>by
  simp only[evL] at h;rcases Ke.1 h with rfl | h
  ·exact⟨x,by simp,rfl⟩
  ·obtain⟨y,h1,h2⟩:=Zi6 h;exact⟨y,KA _ h1,h2⟩
theorem J5 (h:Xz U hp hp') (C:Orc) (M:Zr) {sl:Sl} (base:Nat) {c:COp} (hx:∀ x∈ZF c,ZlA U (evO sl x)):vop C M sl hp base c=vop C M sl hp' base c:=by
 cases c<;>simp only[ZF] at hx<;>simp only[vop]
 case buildSl s xs=>
  cases hv:evL sl xs with
  | nil=>rfl
  | cons v vs=>
   simp only[buildSl];rw[ZjN h];intro y hy;rw[← hv] at hy;obtain⟨z,h1,rfl⟩:=Zi6 hy;exact(hx z h1).1
 case load g s a=>rw[ZwS h (hx a (by simp)).1]
 case store slc s a x=>rw[ZvH h (hx a (by simp)).1 _ _ _ _ (ZqJ (hx x (by simp)).1)]
 case slice s x lo hi=>rw[ZvD h (hx x (by simp)).1]
 case slice0 x hi mx=>unfold slice0;rw[ZkE h (hx x (by simp)).1]
 case slice3 s x lo hi mx=>unfold slice3;rw[ZkE h (hx x (by simp)).1]
 case clear s z x=>rw[ZvE h (hx x (by simp)).1]
 case iaS s x i=>
  congr 1
  funext n
  simp only[ZjX];rw[Znm h (hx x (by simp)).1]
 case len x=>rw[ZkE h (hx x (by simp)).1]
 case append s b str flat x y=>
  simp only[Zxl];rw[Zly h (hx x (by simp)).1,Zly h (hx y (by simp)).1];generalize X7 hp' (evO sl x)=mx;generalize X7 hp' (evO sl y)=my;cases mx with
  | nil=>simp only[ZdT];rw[ZjM h (hx x (by simp)).1 (hx y (by simp)).1]
  | cons i r=>
   cases my with
   | nil=>simp only[ZdT];rw[ZjM h (hx x (by simp)).1 (hx y (by simp)).1]
   | cons j t=>simp only[ZdT];rw[ZqI h (hx x (by simp)).1 (hx y (by simp)).1]
 case appT s b f x y=>exact ZqI h (hx x (by simp)).1 (hx y (by simp)).1 s b base
 case buildT s n xs=>
  refine ZvG h fun y hy=>?_;obtain⟨z,h1,rfl⟩:=Zi6 hy;exact(hx z h1).1
 case call f as1=>
  have hf:=hx f (by simp);cases he:evO sl f<;>simp only[ZdU]
  rename_i g aa;refine ZwW h C (M g) base g fun y hy=>?_;rcases Kj.1 hy with hy | hy
  ·obtain⟨z,h1,rfl⟩:=Zi6 hy;exact(hx z (by simp[h1])).1
  ·exact hf.2 g aa he y hy
theorem Zub {Γ:Gh} {w:World} {I:Nat→Prop} {x:AV} {v:Value} (h:YT Γ w I x v):∀ id∈Zq x,∃ r,Γ id=some r:=by
 intro id aa;cases x<;>simp only[Zq,KD,Kx,Ke,or_false] at aa
 case ptr i off=>subst aa;obtain⟨b,h1,_⟩:=h;exact⟨_,h1⟩
 case prow i sz k off=>subst aa;obtain⟨b,o,n,c,h1,_⟩:=h;exact⟨_,h1⟩
 case own i=>subst aa;obtain⟨a,n,c,sz,h1,_⟩:=h;exact⟨_,h1⟩
 case ownv i off n=>subst aa;obtain⟨a0,m,c,sz,a,h1,_⟩:=h;exact⟨_,h1⟩
 case bnil i e=>subst aa;obtain⟨b,h1,_⟩:=h;exact⟨_,h1⟩
theorem Znn {Γ:Gh} {w:World} {I:Nat→Prop}:∀ {xs:List AV} {vs:List Value},Zz (YT Γ w I) xs vs→∀ id∈xs.flatMap Zq,∃ r,Γ id=some r
 | [],[],_,id,aa=>by simp at aa
 | [],_ :: _,h,_,_=>h.elim
 | _ :: _,[],h,_,_=>h.elim
 | x :: xs,v :: vs,h,id,aa=>by
  simp only[KT,Kj] at aa;rcases aa with aa | aa
  ·exact Zub h.1 id aa
  ·exact Znn h.2 id aa
theorem Zno {Γ:Gh} {w:World} {I:Nat→Prop} {x:AV} {v:Value} (h:U7 Γ w I x v):∀ id∈ZC x,∃ r,Γ id=some r:=by
 intro id aa;by_cases hs:x.small=true
 ·rw[(YK hs (fun k=>k) []).2.2.2.2.2] at aa;rw[(WJ hs v).2.1] at h;exact Zub h id aa
 ·cases x with
  | agg cs=>obtain⟨us,_,h2⟩:=h;exact Znn h2 id aa
  | clo f cs=>obtain⟨us,_,h2⟩:=h;exact Znn h2 id aa
  | tup cs=>exact h.elim
  | d x=>simp[ZC,Zq] at aa
  | _=>exact absurd rfl hs
theorem ZBu {Γ:Gh} {w:World} {I:Nat→Prop} {x:AV} {v:Value} (h:XK Γ w I x v):∀ id∈ZC x,∃ r,Γ id=some r:=Zno h.rep2
theorem ZqO {Γ:Gh} {w:World} {I:Nat→Prop}:∀ {xs:List AV} {vs:List Value},Zz (U7 Γ w I) xs vs→∀ id∈xs.flatMap ZC,∃ r,Γ id=some r
 | [],[],_,id,aa=>by simp at aa
 | [],_ :: _,h,_,_=>h.elim
 | _ :: _,[],h,_,_=>h.elim
 | x :: xs,v :: vs,h,id,aa=>by
  simp only[KT,Kj] at aa;rcases aa with aa | aa
  ·exact Zno h.1 id aa
  ·exact ZqO h.2 id aa
theorem ZwX {Γ:Gh} {w:World} {I:Nat→Prop} {x:AV} {v:Value} (h:Rep Γ w I x v):∀ id∈Zy x,∃ r,Γ id=some r:=by
 intro id aa;by_cases ht:∃ vs,x=.tup vs
 ·obtain⟨vs,rfl⟩:=ht;obtain⟨us,_,h2⟩:=h;exact ZqO h2 id aa
 ·have e:Rep Γ w I x v=U7 Γ w I x v:=by cases x<;>first | rfl | exact absurd ⟨_,rfl⟩ ht
  rw[e] at h;refine Zno h id ?_;cases x<;>first | exact aa | exact absurd ⟨_,rfl⟩ ht
theorem ZqP {Γ:Gh} {w:World} {I:Nat→Prop}:∀ {xs:List AV} {vs:List Value},Zz (XK Γ w I) xs vs→∀ id∈xs.flatMap ZC,∃ r,Γ id=some r
 | [],[],_,id,aa=>by simp at aa
 | [],_ :: _,h,_,_=>h.elim
 | _ :: _,[],h,_,_=>h.elim
 | x :: xs,v :: vs,h,id,aa=>by
  simp only[KT,Kj] at aa;rcases aa with aa | aa
  ·exact ZBu h.1 id aa
  ·exact ZqP h.2 id aa
theorem ZCX {Γ:Gh} {w:World} {I:Nat→Prop} {x:AV} {v:Value} (hn:∀ id,¬U id→Γ id=none) (h:Rep Γ w I x v):ZlA U x:=by
 have ab:∀ id,(∃ r,Γ id=some r)→U id:=fun id ⟨r,hr⟩=>Classical.byContradiction fun hu=>by rw[hn id hu] at hr;cases hr
 refine⟨fun id aa=>ab id (ZwX h id aa),fun f ad hx c hc=>?_⟩;subst hx;obtain⟨us,_,h2⟩:=h;obtain⟨i,hi⟩:=LG hc;obtain⟨u,_,h3⟩:=h2.get i c hi;exact fun id aa=>ab id (ZwX h3.rep2.rep id aa)
end
section
variable {P:Program} {nt:Nat} {F A I:Nat→Prop} {Γ:Gh} {U:Nat→Prop} {sl:Sl} {hp:Hp} {a:Act} {w:World}
theorem Sim.good (h:Sim nt F A I Γ U sl hp a w) (t:Nat):ZlA U (gs sl t):=ZCX h.names (h.slots t)
theorem Sim.agree (h:Sim nt F A I Γ U sl hp a w) {hp' : Hp} (hs:∀ id,U id→lkp hp id=lkp hp' id):Xz U hp hp':=by
 refine⟨hs,fun id o hu hl i hi=>?_⟩;have ho:=h.objs id o hl;cases o with
 | box cs=>
  obtain⟨b,cur,e,_,_,_,_,h5,_⟩:=ho;obtain⟨r,hr⟩:=ZqP h5 i hi;exact Classical.byContradiction fun hu=>by rw[h.names i hu] at hr;cases hr
 | row sz xs ex fz=>simp[Jb] at hi
 | gone=>simp[Jb] at hi
 | tree sz ns xs lk=>simp[Jb] at hi
theorem Oper.wp_ex {o:Oper} {a:Act} {w:World} {K:Act→World→Prop} (h:o.wp P a w K (fun _ _ _=>False)):∃ a' w',K a' w':=by
 unfold Oper.wp at h;generalize (execOp a.eval o).run P w=r at h;cases r with
 | ok n w' =>
  cases n<;>simp only[Oper.upon] at h
  case value v=>exact⟨_,_,h⟩
  case skip=>exact⟨_,_,h⟩
  case defer d=>exact⟨_,_,h⟩
  case enter f args=>
   obtain⟨e,aa,fr,he,_⟩:=h [];cases e with
   | returned v=>exact⟨_,_,he⟩
   | panicked c=>exact he.elim
   | outgrown=>obtain⟨a,w,hf⟩:=he;exact hf.elim
  case row row args=>
   obtain⟨v,aa,he,_⟩:=h default [];exact⟨_,_,he⟩
 | halt x w'=>cases x<;>simp only[Oper.upon] at h
end
end Go.Abs
namespace Go.Abs
open Go
def X0 (s s' : Sl×Hp):Prop:=(∀ t,gs s.1 t=gs s'.1 t)∧∀ id,lkp s.2 id=lkp s'.2 id
theorem X0.refl (s:Sl×Hp):X0 s s:=⟨fun _=>rfl,fun _=>rfl⟩
theorem X0.symm {s s' : Sl×Hp} (h:X0 s s'):X0 s' s:=⟨fun t=>(h.1 t).symm,fun id=>(h.2 id).symm⟩
theorem X0.trans {a b c:Sl×Hp} (h:X0 a b) (k:X0 b c):X0 a c:=⟨fun t=>(h.1 t).trans (k.1 t),fun id=>(h.2 id).trans (k.2 id)⟩
theorem Zbr:∀ (l:Hp) {hp hp' : Hp},(∀ id,lkp hp id=lkp hp' id)→∀ id,lkp (Zi hp l) id=lkp (Zi hp' l) id
 | [],_,_,h=>h
 | (k,o) :: r,hp,hp',h=>by
  simp only[Zi];exact Zbr r fun id=>by rw[Qn,Qn,h id]
theorem ZlB:∀ (l:List Nat) {hp hp' : Hp},(∀ id,lkp hp id=lkp hp' id)→∀ id,lkp (Qe hp l) id=lkp (Qe hp' l) id
 | [],_,_,h=>h
 | d :: r,hp,hp',h=>by
  simp only[Qe];exact ZlB r fun id=>by rw[ZfX,ZfX,h id]
theorem ZCY (ce:Zf) (dst:Option Nat) {s s' : Sl×Hp} (h:X0 s s'):X0 (ce.on dst s.1 s.2) (ce.on dst s'.1 s'.2):=by
 refine⟨fun t=>?_,fun id=>?_⟩
 ·show gs (Zs (Xn ce.gone s.1) dst ce.eff.val) t=gs (Zs (Xn ce.gone s'.1) dst ce.eff.val) t;rw[QG,QG,QW,QW,h.1 t]
 ·exact Zbr _ (Zbr _ (ZlB _ fun id=>by rw[Ql,Ql,Wh,Wh,h.2 id])) id
noncomputable def ZO (C:Orc) (M:Zr) (nx i:Nat) (t:Bool) (o:CO) (s:Sl×Hp):Option (Sl×Hp):=
 bnd (Z2 s.1 o.guard) fun b=>if b then YM (nx+64*i) o.dst s.1 s.2 (We C M nx i t o.op s.1 s.2) else some (Zs s.1 o.dst (.tup []),s.2)
noncomputable def ZH (C:Orc) (M:Zr) (os:List CO) (nx i:Nat) (s:Sl×Hp):Option (Sl×Hp):=bnd os[i]? fun o=>ZO C M nx i (ZX os i) o s
noncomputable def runL (C:Orc) (M:Zr) (os:List CO) (nx:Nat):List Nat→Sl×Hp→Option (Sl×Hp)
 | [],s=>some s
 | i :: l,s=>bnd (ZH C M os nx i s) (runL C M os nx l)
theorem ZkF (C:Orc) (M:Zr) (os:List CO) (nx:Nat):∀ (aa:List CO) (i:Nat) (t:Bool) (sl:Sl) (hp:Hp),os.drop i=aa →
  UV C M nx i t aa sl hp=runL C M os nx (List.range' i aa.length) (sl,hp)
 | [],i,t,sl,hp,_=>rfl
 | o :: aa,i,t,sl,hp,hd=>by
  have h1:os[i]?=some o:=by
   have:(os.drop i)[0]?=some o:=by rw[hd];rfl
   rw[Lk] at this;simpa using this
  have h2:os.drop (i+1)=aa:=by rw[← KaD,hd];rfl
  have h4:CO.starts o=ZX os i:=by simp only[ZX,h1]
  simp only[UV,Kl,List.range'_succ,runL,ZH,h1,Zh,ZO,h4];cases hw:Z2 sl o.guard with
  | none=>rfl
  | some b=>
   cases b with
   | true=>
    simp only[Zh,Km];cases hs:YM (nx+64*i) o.dst sl hp (We C M nx i (ZX os i) o.op sl hp) with
    | none=>rfl
    | some r=>
     simp only[Zh];exact ZkF C M os nx aa (i+1) t r.1 r.2 h2
   | false=>
    simp only[Zh,Ka,Kn];exact ZkF C M os nx aa (i+1) t _ _ h2
theorem ZyW {hp hp' : Hp} (h:∀ id,lkp hp id=lkp hp' id):Xz (fun _=>True) hp hp':=⟨fun id _=>h id,fun _ _ _ _ _ _=>trivial⟩
theorem ZBv (C:Orc) (M:Zr) {s s' : Sl×Hp} (h:X0 s s') (base:Nat) (c:COp):vop C M s.1 s.2 base c=vop C M s'.1 s'.2 base c:=by
 have h1:∀ x:Opd,evO s.1 x=evO s'.1 x:=fun x=>by cases x<;>simp only[evO];exact h.1 _
 rw[Xw C M s.2 base (sl:=s.1) (sl':=s'.1) fun x _=>h1 x];exact J5 (ZyW h.2) C M base fun x _=>⟨fun _ _=>trivial,fun _ _ _ _ _ _ _=>trivial⟩
theorem ZwY {s s' : Sl×Hp} (h:X0 s s') (g:Option (Nat×Bool)):Z2 s.1 g=Z2 s'.1 g:=by
 cases g with
 | none=>rfl
 | some q=>simp only[Z2,h.1]
theorem ZwZ {C:Orc} {M:Zr} {os:List CO} {nx i:Nat} {s s' r:Sl×Hp} (h:X0 s s') (hr:ZH C M os nx i s=some r):∃ r',ZH C M os nx i s'=some r'∧X0 r r':=by
 unfold ZH at hr ⊢;obtain⟨o,h1,hr⟩:=Za hr;rw[h1,Zh];unfold ZO at hr ⊢;obtain⟨b,h2,hr⟩:=Za hr;rw[← ZwY h,h2,Zh];cases b with
 | true=>
  simp only[Km] at hr ⊢;obtain⟨ce,h3,h4,rfl⟩:=XF hr;have h5:We C M nx i (ZX os i) o.op s'.1 s'.2=some ce:=by
   rw[← h3];unfold We;rw[ZBv C M h]
  refine⟨ce.on o.dst s'.1 s'.2,?_,ZCY ce o.dst h⟩;unfold YM;rw[h5,Zh,Kg h4]
 | false=>
  simp only[Ka,Kn] at hr ⊢;cases hr;refine⟨_,rfl,fun t=>?_,h.2⟩;show gs (Zs s.1 o.dst (.tup [])) t=gs (Zs s'.1 o.dst (.tup [])) t;rw[QG,QG,h.1 t]
theorem ZqQ {C:Orc} {M:Zr} {os:List CO} {nx:Nat}:∀ {l:List Nat} {s s' r:Sl×Hp},X0 s s'→runL C M os nx l s=some r→∃ r',runL C M os nx l s'=some r'∧X0 r r'
 | [],s,s',r,h,hr=>by simp only[runL] at hr ⊢;cases hr;exact⟨s',rfl,h⟩
 | i :: l,s,s',r,h,hr=>by
  simp only[runL] at hr ⊢;obtain⟨s1,h1,hr⟩:=Za hr;obtain⟨aa,h2,h3⟩:=ZwZ h h1;rw[h2,Zh];exact ZqQ h3 hr
theorem QH {sl:Sl} {d:Option Nat} {v:AV} {o:CO} (h:QT d (looks o)=true):Z2 (Zs sl d v) o.guard=Z2 sl o.guard:=by
 cases hg:o.guard with
 | none=>rfl
 | some q=>
  simp only[Z2];rw[QG,Kd];intro e;rw[e] at h;simp[QT,looks,hg,Zrj] at h
theorem Wj {sl:Sl} {d:Option Nat} {v:AV} {o:CO} (h:QT d (looks o)=true):∀ x∈ZF o.op,evO (Zs sl d v) x=evO sl x:=by
 intro x hx;cases x with
 | t n=>
  simp only[evO];rw[QG,Kd];intro e;rw[e] at h;simp only[QT,looks,K9,K5,Ln] at h;exact h (Kj.2 (.inl (KC.2 ⟨_,hx,by simp[W6]⟩)))
 | _=>rfl
theorem ZkG {C:Orc} {M:Zr} {nx i:Nat} {o:CO} {s s' : Sl×Hp} (h:ZO C M nx i false o s=some s') :
  ∃ v adds,s'=(Zs s.1 o.dst v,Zi s.2 adds)∧(∀ k x,(k,x)∈adds→nx+64*i≤k∧k<nx+64*i+64) ∧
   ∀ aa : Sl×Hp,Z2 aa.1 o.guard=Z2 s.1 o.guard→vop C M aa.1 aa.2 (nx+64*i) o.op=vop C M s.1 s.2 (nx+64*i) o.op→ZO C M nx i false o aa=some (Zs aa.1 o.dst v,Zi aa.2 adds):=by
 unfold ZO at h;obtain⟨b,hw,h⟩:=Za h;cases b with
 | true=>
  simp only[Km] at h;obtain⟨ce,h1,h2,rfl⟩:=XF h;unfold We at h1;simp only[Ka,Kn] at h1;have ad:=h1;unfold Zci at h1;obtain⟨c,h3,h1⟩:=Za h1;unfold ZfP at h1;split at h1
  ·rename_i e1 e2 e3 e4;cases h1;have ab:∀ s:Sl×Hp,ce.on o.dst s.1 s.2=(Zs s.1 o.dst ce.eff.val,Zi s.2 ce.eff.adds):=by
    intro s;unfold Zf.on Eff.on;rw[e1,e2,e3,e4];rfl
   refine⟨ce.eff.val,ce.eff.adds,ab s,UX h2,fun aa g1 g2=>?_⟩;unfold ZO;rw[g1,hw,Zh];simp only[Km];unfold YM We;simp only[Ka,Kn];rw[g2,ad,Zh,Kg h2,ab]
  ·cases h1
 | false=>
  simp only[Ka,Kn] at h;cases h;refine⟨.tup [],[],rfl,fun k x hk=>by simp at hk,fun aa g1 g2=>?_⟩;unfold ZO;rw[g1,hw,Zh];rfl
theorem U5 {U:Nat→Prop} {a:AV} (h:Y6 (.v a)=true):ZlA U a:=by
 simp only[Y6,Kf,List.isEmpty_iff,K9] at h;refine⟨fun id aa=>by rw[h.1] at aa;simp at aa,fun f ab hx=>?_⟩;subst hx;simp[Zus] at h
section
variable {P:Program} {nt:Nat}
def ZjP (nt:Nat) (s:Sl×Hp) (U:Nat→Prop):Prop:=∃ F A I Γ a w,Sim nt F A I Γ U s.1 s.2 a w
theorem Wk {U:Nat→Prop} {base:Nat} (hf:Xl U base) {adds:Hp} (ha:∀ k x,(k,x)∈adds→base≤k∧k<base+64) (hp:Hp):∀ id,U id→lkp hp id=lkp (Zi hp adds) id:=by
 intro id hu;rw[ZD];intro o ho;obtain⟨h1,h2⟩:=ha id o ho;exact hf id h1 h2 hu
theorem Uc {sl:Sl} {d e:Option Nat} (h:Zac d e=true) (u v:AV) (t:Nat):gs (Zs (Zs sl d u) e v) t=gs (Zs (Zs sl e v) d u) t:=by
 simp only[QG];by_cases h1:e=some t
 ·by_cases h2:d=some t
  ·rw[h1,h2] at h;simp[Zac] at h
  ·simp[h1,h2]
 ·simp[h1]
theorem ZCZ {adds aa : Hp} {b b' : Nat} (ha:∀ k x,(k,x)∈adds→b≤k∧k<b+64) (ad : ∀ k x,(k,x)∈aa→b'≤k∧k<b'+64) (hd:b+64≤b'∨b'+64≤b) (hp:Hp) (id:Nat) :
  lkp (Zi (Zi hp adds) aa) id=lkp (Zi (Zi hp aa) adds) id:=by
 have ab:∀ (l:Hp) (hp hp' : Hp),(∀ o,(id,o)∉l)→lkp (Zi hp l) id=lkp hp id:=fun l hp _ h=>ZD l hp id h;by_cases h1:∃ o,(id,o)∈adds
 ·have h2:∀ o,(id,o)∉aa:=fun o ho=>by
   obtain⟨o',ae⟩:=h1;have:=ha id o' ae;have:=ad id o ho;omega
  rw[ZD aa _ id h2];have ab:∀ (l:Hp) (hp hp' : Hp),lkp hp id=lkp hp' id→lkp (Zi hp l) id=lkp (Zi hp' l) id:=by
   intro l
   induction l with
   | nil=>intro hp hp' h;exact h
   | cons q r ih=>
    intro hp hp' h;obtain⟨k,x⟩:=q;simp only[Zi];exact ih _ _ (by rw[Qn,Qn,h])
  exact ab adds _ _ (ZD aa hp id h2).symm
 ·have h2:∀ o,(id,o)∉adds:=fun o ho=>h1 ⟨o,ho⟩;rw[ZD adds _ id h2];have ab:∀ (l:Hp) (hp hp' : Hp),lkp hp id=lkp hp' id→lkp (Zi hp l) id=lkp (Zi hp' l) id:=by
   intro l
   induction l with
   | nil=>intro hp hp' h;exact h
   | cons q r ih=>
    intro hp hp' h;obtain⟨k,x⟩:=q;simp only[Zi];exact ih _ _ (by rw[Qn,Qn,h])
  exact ab aa _ _ (ZD adds hp id h2)
theorem ZqR {C:Orc} {M:Zr} {os:List CO} {nx i j:Nat} {oi oj:CO} (an:os[i]?=some oi) (ab:os[j]?=some oj) (ae:ZX os j=false) (ao:i≠j) (af:XL oj oi=true)
  (ad:∀ (k:Nat) (o:CO),os[k]?=some o→∀ x∈ZF o.op,Y6 x=true) {s s1 s2:Sl×Hp} {U:Nat→Prop} (hs:ZjP nt s U) (ap:Xl U (nx+64*i)) (aq:Xl U (nx+64*j))
  (h1:ZH C M os nx j s=some s1) (h2:ZO C M nx i false oi s1=some s2):∃ t1,ZO C M nx i false oi s=some t1∧∃ t2,ZH C M os nx j t1=some t2∧X0 t2 s2:=by
 obtain⟨F,A,I,Γ,a,w,aa⟩:=hs;simp only[XL,Kf] at af;obtain⟨⟨ag,ar⟩,ah⟩:=af;have good:∀ (k:Nat) (o:CO),os[k]?=some o→∀ x∈ZF o.op,ZlA U (evO s.1 x):=by
  intro k o ho x hx;cases x with
  | t n=>exact aa.good n
  | v y=>exact U5 (ad k o ho _ hx)
  | f n=>exact⟨fun id au=>by simp[evO,Zy,ZC] at au,fun f av h c hc=>by cases h;simp at hc⟩
 simp only[ZH,ab,Zh,ae] at h1;obtain⟨vj,aj,rfl,ak,aw⟩:=ZkG h1;obtain⟨vi,ai,rfl,al,am⟩:=ZkG h2;dsimp only at am;have e1:ZO C M nx i false oi s=some (Zs s.1 oi.dst vi,Zi s.2 ai):=by
  refine am s (QH ag).symm ?_;rw[Xw C M (Zi s.2 aj) (nx+64*i) (Wj (o:=oi) ag)];exact J5 (aa.agree (Wk aq ak s.2)) C M _ (good i oi an)
 refine⟨_,e1,?_⟩;have e2:ZO C M nx j false oj (Zs s.1 oi.dst vi,Zi s.2 ai)=some (Zs (Zs s.1 oi.dst vi) oj.dst vj,Zi (Zi s.2 ai) aj):=by
  refine aw (Zs s.1 oi.dst vi,Zi s.2 ai) (QH ah) ?_;rw[Xw C M (Zi s.2 ai) (nx+64*j) (Wj (o:=oj) ah)];exact(J5 (aa.agree (Wk ap al s.2)) C M _ (good j oj ab)).symm
 refine⟨_,by simp only[ZH,ab,Zh,ae];exact e2,fun t=>?_,fun id=>?_⟩
 ·exact(Uc ar vj vi t).symm
 ·refine ZCZ al ak ?_ s.2 id;rcases L5 ao with h | h
  ·left;omega
  ·right;omega
theorem ZBw {C:Orc} {M:Zr} {os:List CO} {nx i j:Nat} {oi oj:CO} (ab:os[i]?=some oi) (ad:os[j]?=some oj) (ae:ZX os i=false) (af:ZX os j=false) (ag:i≠j) (ah:XL oj oi=true)
  (aa:∀ (k:Nat) (o:CO),os[k]?=some o→∀ x∈ZF o.op,Y6 x=true) {s s1 s2:Sl×Hp} {U:Nat→Prop} (hs:ZjP nt s U) (ai:Xl U (nx+64*i)) (aj:Xl U (nx+64*j))
  (h1:ZH C M os nx j s=some s1) (h2:ZH C M os nx i s1=some s2):∃ t1,ZH C M os nx i s=some t1∧∃ t2,ZH C M os nx j t1=some t2∧X0 t2 s2:=by
 have e:∀ s:Sl×Hp,ZH C M os nx i s=ZO C M nx i false oi s:=fun s=>by simp only[ZH,ab,Zh,ae]
 rw[e] at h2;simp only[e];exact ZqR ab ad af ag ah aa hs ai aj h1 h2
end
end Go.Abs
namespace Go.Abs
open Go
section
variable {P:Program} {nt:Nat} {F A:Nat→Prop} {Γ0:Gh}
theorem Zw0:∀ (l:List AV) (k t:Nat),gs (Wa k l) t=if k≤t then Zb5 l[t-k]? else .junk
 | [],k,t=>by simp[Wa,gs,lkp,Zb5]
 | v :: r,k,t=>by
  have ih:=Zw0 r (k+1) t;have aa:gs (Wa k (v :: r)) t=if k=t then Zb5 (ZBd (some v) (lkp (Wa (k+1) r) t)) else gs (Wa (k+1) r) t:=by
   simp only[Wa,gs,Zls];by_cases h:k=t
   ·simp[h]
   ·simp only[h,Kn];cases lkp (Wa (k+1) r) t<;>rfl
  rw[aa];by_cases h1:k=t
  ·subst h1;have h2:lkp (Wa (k+1) r) k=none:=by
    have:∀ (l:List AV) (j:Nat),k<j→lkp (Wa j l) k=none:=by
     intro l
     induction l with
     | nil=>intro j _;rfl
     | cons a l ihl=>
      intro j hj;simp only[Wa,Zls,ihl (j+1) o_];rw[Kd o_];rfl
    exact this r (k+1) o_
   rw[h2];simp[ZBd,Zb5]
  ·rw[Kd h1,ih];by_cases h2:k≤t
   ·rw[Kg o_,Kg h2];have:t-k=(t-(k+1))+1:=o_
    rw[this];simp
   ·rw[Kd o_,Kd h2]
theorem Zps {v:Value} {u:Value} {t:TypeId} {w:World} (h:(Instr.loadAt t v).run P w=.ok u w):(do loadVar t (← asAddr v):Sem Value).run P w=.ok u w:=by
 cases v with
 | pointer a=>
  cases a with
  | none=>simp[Instr.loadAt,Instr.sureAddr] at h
  | some a=>simpa [Instr.loadAt,Instr.sureAddr,asAddr] using h
 | _=>simp[Instr.loadAt,Instr.sureAddr] at h
theorem Zht {I:Nat→Prop} {Γ:Gh} {st:St} {a:Act} {w:World} (h:Sim nt F A I Γ (Jm st.nx) st.sl st.hp a w):∀ {aa:List ResultVar} {rs:List Zrh} {vs:List AV},QJ (cRes P) aa=some rs→QJ (Zrr st) rs=some vs →
  ∃ us:List Value,(aa.mapM (m:=Sem) fun
   | .tmp t=>pure (a.tmps.getD t undef)
   | .cell c t=>do loadVar t (← asAddr (a.tmps.getD c undef))).run P w=.ok us w∧Zz (Rep Γ w I) vs us
 | [],rs,vs,hr,hv=>by
  simp only[QJ] at hr;cases hr;simp only[QJ] at hv;cases hv;exact⟨[],by simp,trivial⟩
 | rv :: aa,rs,vs,hr,hv=>by
  simp only[QJ] at hr;obtain⟨r,h1,hr⟩:=Za hr;obtain⟨ad,h2,hr⟩:=Za hr;cases hr;simp only[QJ] at hv;obtain⟨v,h3,hv⟩:=Za hv;obtain⟨ae,h4,hv⟩:=Za hv;cases hv;obtain⟨us,h5,h6⟩:=Zht h h2 h4;cases rv with
  | tmp t=>
   simp only[cRes] at h1;cases h1;simp only[Zrr] at h3;cases h3;refine⟨a.tmps.getD t undef :: us,?_,h.slots t,h6⟩;simp only[List.mapM_cons,Sem.run_bind,Sem.run_pure,Result.andThen_ok,h5]
  | cell c t=>
   simp only[cRes] at h1;obtain⟨g,h7,h1⟩:=Za h1;cases h1;simp only[Zrr] at h3;obtain⟨u,h8,h9⟩:=Zxd (P:=P) h7 h.hpOK (h.slots c) h3;have ab:=Zps h8;refine⟨u :: us,?_,h9,h6⟩;simp only[List.mapM_cons];rw[Sem.run_bind,ab];simp only[Result.andThen_ok,Sem.run_bind,h5,Sem.run_pure]
theorem Zuc {Γ:Gh} {w:World} {I:Nat→Prop}:∀ {vs:List AV} {us:List Value},ZkO vs=false→Zz (Rep Γ w I) vs us→Zz (U7 Γ w I) vs us
 | [],[],_,_=>trivial
 | [],_ :: _,_,h=>h.elim
 | _ :: _,[],_,h=>h.elim
 | v :: vs,u :: us,hn,h=>by
  simp only[ZkO,Kar] at hn;refine⟨?_,Zuc hn.2 h.2⟩;cases v<;>first | exact h.1 | (simp[ZAI] at hn)
theorem ZAs {Γ:Gh} {w:World} {I:Nat→Prop} {vs:List AV} {us:List Value} (h:Zz (Rep Γ w I) vs us):Rep Γ w I (Zck vs) (if h:us.toArray.size=1 then us.toArray[0] else .tuple us.toArray):=by
 match vs,us,h with
 | [],[],h=>exact⟨#[],rfl,trivial⟩
 | [v],[u],h=>exact h.1
 | v :: v' :: vs,u :: u' :: us,h=>
  simp only[Zck];cases hn:ZkO (v :: v' :: vs)
  ·simp only[Ka,Kn];rw[dif_neg (by simp)];exact⟨_,rfl,by simpa using Zuc hn h⟩
  ·exact trivial
theorem ZyX {C:Orc} {M:Zr} (hC:Qy P C) {f:FuncId} {fn:Func} {cf:Zp} (hf:P.funcs[f]?=some fn) (ag:(fn.name == "runtime.NumGoroutine")=false) (ae:Zzn P fn=some (ZkR cf)) (hD:VN P C M fn.ntmps)
  {N:Nat} {as1:List AV} {h:List Zm} {res:AV} {hs:List Zm} (hv:Zrs C M N cf as1 h=some (res,hs)):Zqq P f as1 h res hs:=by
 unfold Zzn at ae;obtain⟨c,hb,ae⟩:=Za ae;obtain⟨cc,hcc,ae⟩:=Za ae;obtain⟨rs,am,ae⟩:=Za ae;obtain⟨cnt,an,aj⟩:=cf;simp only[ZkR,Option.some.injEq,Zp.mk.injEq] at ae;obtain⟨rfl,rfl,rfl⟩:=ae;refine⟨⟨fn,hf,ag,by rw[hb];rfl⟩,fun F A I Γ args w aa=>?_⟩;unfold Zrs at hv;split at hv
 ·rename_i ao;simp only at ao hv;cases hr:ZG C M N aj { sl:=Wa 0 as1,hp:=Wf 0 h,nx:=h.length,m:=h.length } with
  | none=>rw[hr] at hv;simp[ZdX] at hv
  | some q=>
   obtain⟨ex,ab⟩:=q;rw[hr] at hv;have ap:as1.length=args.length:=aa.args.length;refine calls_of_wp hf hb ?_;have hS:Sim fn.ntmps F A I Γ (Jm h.length) (Wa 0 as1) (Wf 0 h) { tmps:=args.toArray++Array.replicate (fn.ntmps-args.toArray.size) undef,defers:=[] } w:=by
    refine { nt:=by simp;omega,dfr:=rfl,slots:=fun t=>?_,objs:=aa.objs,inj:=aa.inj,bound:=aa.bound,fresh:=aa.fresh,own:=aa.own,names:=fun id ah=>aa.names id (by simpa [Jm] using ah),glob:=aa.glob };rw[Zw0];simp only[Kaq,Km,Nat.sub_zero];cases ht:as1[t]? with
    | none=>exact trivial
    | some x=>
     obtain⟨v,h1,h2⟩:=aa.args.get t x ht;have h3:(args.toArray++Array.replicate (fn.ntmps-args.toArray.size) undef).getD t undef=v:=by
      have ak:=(Kc.1 h1).1;have h4:=Kw ak;rw[h1] at h4;simp[Array.getElem?_append,ak];exact(Option.some.inj h4).symm
     rw[h3];exact h2
   have hm:Zrw Γ h.length:=by
    refine⟨aa.names,fun k hk=>?_⟩;have hl:lkp (Wf 0 h) k=some h[k]:=by rw[Ua];simp[hk]
    have ho:=aa.objs k _ hl;cases hq:h[k] with
    | box cs=>rw[hq] at ho;obtain⟨b,cur,e,h1,_⟩:=ho;exact⟨_,h1⟩
    | row sz xs e z=>rw[hq] at ho;obtain⟨ad,n,c,h1,_⟩:=ho;exact⟨_,h1⟩
    | gone=>rw[hq] at ho;exact ho
    | tree sz ns xs lk=>rw[hq] at ho;obtain⟨ad,n,c,h1,_⟩:=ho;exact⟨_,h1⟩
   have hc:ZfU Γ Γ (Wf 0 h):=Qj.refl Γ;refine ZfW (F:=F) (A:=A) (Γ0:=Γ) hC hD aj c hcc hr hS hc hm fun a' w' hp=>?_;have al:(bnd (QJ (Zrr ab) rs) fun vs=>some (Wq h.length ab.hp (Zck vs)))=some (res,hs)→a'.defers=[]∧∃ v,(results fn a'.tmps).run P w'=.ok v w'∧∃ v2 I' Γ',Ending.returned v=.returned v2∧ZBe F A I Γ w hs res I' Γ' v2 w':=by
    intro af;obtain⟨I',Γ',b1,b2,b3,b4,b5⟩:=hp;obtain⟨vs,aq,af⟩:=Za af;obtain⟨us,ar,ai⟩:=Zht b5 am aq;refine⟨b5.dfr,(if h:us.toArray.size=1 then us.toArray[0] else .tuple us.toArray),?_,_,I',Zcm ab.hp (Xi ab.hp (X6 ab.hp) (Zy (Zck vs)++WM ab.hp (List.range h.length)) (List.range h.length)) Γ',rfl,?_⟩
    ·unfold results;rw[Sem.run_bind,Array.mapM_eq_mapM_toList,Sem.run_map];exact congrArg (fun r:Result (List Value)=>(r.andThen fun a w'=>Result.ok a.toArray w').andThen fun a w'=>Sem.run P (pure (if h:a.size=1 then a[0] else Value.tuple a)) w') ar
    ·have au:=(U4 ab.hp (X6 ab.hp) (Zy (Zck vs)++WM ab.hp (List.range h.length)) (List.range h.length) Kax).1;obtain⟨t1,t2,t3⟩:=Zzo b5 au (ZhR b5 b1 hm);simp only[Wq,Option.some.injEq,Prod.mk.injEq] at af;obtain⟨rfl,rfl⟩:=af;have av:=Zuz (hp:=ab.hp) (hp':=ab.hp) (n:=X6 ab.hp) (todo:=Zy (Zck vs)++WM ab.hp (List.range h.length)) (m:=h.length) b1 hm;exact { heads:=av,keeps:=b2,sub:=b3,fr:=b4,res:=Zry _ (ZAs ai),objs:=t1,inj:=t2,bound:=b5.bound,names:=fun id ah=>t3 id (by simpa [Zdl] using ah) }
   cases ex with
   | normal=>exact al (by simpa [ZdX] using hv)
   | ret=>exact al (by simpa [ZdX] using hv)
   | exit id=>simp[ZdX] at hv
 ·cases hv
end
end Go.Abs
namespace Go.Abs
open Go
theorem ZeQ {C:Orc} {M:Zr} {nx i:Nat} {t:Bool} {o:COp} {sl:Sl} {hp:Hp} {ce:Zf} (h:We C M nx i t o sl hp=some ce):vop C M sl hp (nx+64*i) o=some ce:=by
 unfold We at h;split at h
 ·exact h
 ·unfold Zci at h;obtain⟨c,h1,h⟩:=Za h;unfold ZfP at h;split at h
  ·cases h;exact h1
  ·cases h
structure Zfu (P:Program) (X:Fns) (M:Zr):Prop where
 text:∀ f cf,X f=some (.text cf)→∃ fn,P.funcs[f]?=some fn∧(fn.name == "runtime.NumGoroutine")=false∧Zzn P fn=some (ZkR cf)
 prim:∀ f p,X f=some (.prim p)→∀ as1 h r hs,p as1 h=some (r,hs)→Zqq P f as1 h r hs
theorem Zfv {P:Program} {X:Fns} {M:Zr} (hX:Zfu P X M) (hD:∀ C nt,Qy P C→VN P C M nt):∀ n,Qy P (Qp X M n)
 | 0=>fun f as1 h r hs hv=>by simp only[Qp] at hv;cases hv
 | n+1=>fun f as1 h r hs hv=>by
  simp only[Qp] at hv;have hC:=Zfv hX hD n;cases hf:X f with
  | none=>rw[hf] at hv;simp only[ZnC] at hv;cases hv
  | some g=>
   rw[hf] at hv;cases g with
   | text cf=>
    simp only[ZnC] at hv;obtain⟨fn,h1,h2,h3⟩:=hX.text f cf hf;exact ZyX hC h1 h2 h3 (hD _ _ hC) hv
   | prim p=>simp only[ZnC] at hv;exact hX.prim f p hf as1 h r hs hv
theorem ZoF {P:Program} {X:Fns} {M:Zr} (hX:Zfu P X M) (hD:∀ C nt,Qy P C→VN P C M nt):Qy P (Zd X M):=fun f as1 h r hs hv=>by
 obtain⟨n,hn⟩:=ZhP hv;exact Zfv hX hD n f as1 h r hs hn
end Go.Abs
namespace Go.Abs
open Go
theorem ZAt {v:AV} (h:okC v=true):okV v=true:=by
 cases v<;>first | exact h | cases h
theorem Znp {g:List Nat} {v:AV} (h:okC (Qk g v)=true):Qk g v=v:=by
 cases v<;>simp only[Qk] at h ⊢ <;> first | rfl | (split at h<;>rename_i h' <;> first | (cases h;done) | rw[Kd h'])
theorem ZkH {g:List Nat}:∀ {cs:List AV},ZvW (cs.map (Qk g))=true→cs.map (Qk g)=cs
 | [],_=>rfl
 | c :: cs,h=>by
  simp only[Kh,ZvW,Kf] at h ⊢;rw[Znp h.1,ZkH h.2]
theorem ZeR {g:List Nat} {v:AV} (h:okV (ZU g v)=true):ZU g v=v:=by
 cases v with
 | agg cs=>simp only[ZU,okV] at h ⊢;rw[ZkH h]
 | clo f cs=>simp only[ZU,okV,okC] at h;cases h
 | tup vs=>rfl
 | _=>
  simp only[ZU] at h ⊢;refine Znp ?_;revert h;simp only[Qk]
  first | exact id | (split<;>first | exact id | (intro h;cases h))
theorem ZbZ {g:List Nat} {v:AV} (h:okV (kill g v)=true):kill g v=v:=by
 cases v with
 | tup vs=>
  cases vs with
  | nil=>rfl
  | cons x r=>simp only[kill,Kh,okV,okC] at h;cases h
 | _=>simp only[kill] at h ⊢;exact ZeR h
theorem Zw1 {g:List Nat} {v:AV} (hn:∀ id∈Zq v,id∉g):Qk g v=v:=by
 cases v<;>simp only[Qk]<;>first | rfl | (rw[Kd];simpa [Zq] using hn)
theorem ZAu {g:List Nat} {v:AV} (h:okV v=true) (hn:∀ id∈Zy v,id∉g):kill g v=v:=by
 cases v with
 | tup vs=>
  cases vs with
  | nil=>rfl
  | cons x r=>simp only[okV,okC] at h;cases h
 | clo f cs=>simp only[okV,okC] at h;cases h
 | agg cs=>
  simp only[kill,ZU];congr 1
  rw[K3 (g:=id),LL];intro c hc;exact Zw1 fun id aa=>hn id (by simp only[Zy,ZC,KC];exact⟨c,hc,aa⟩)
 | _=>simp only[kill,ZU];exact Zw1 hn
theorem ZC0 {g:List Nat} {v:AV} (h:kill g v=v):∀ id∈Zy v,id∉g:=fun id aa=>(ZtV g v id (by rw[h];exact aa)).2
theorem ZBx {g:List Nat} {c:AV} (h:okC c=true) (h1:Qk g c=c):ZU g c=c:=by
 cases c<;>simp only[ZU]<;>first | exact h1 | cases h
def Zbk (g:List Nat):Option Zm→Option Zm→Prop
 | none,none=>True
 | some (.row s xs _ _),some (.row s' xs' _ _)=>s'=s∧xs'=xs
 | some (.box cs),some (.box cs')=>cs'=cs.map (ZU g)
 | some (.tree s n xs l),some (.tree s' n' xs' l')=>s'=s∧n'=n∧xs'=xs∧l'=Wm g l
 | some .gone,some .gone=>True
 | _,_=>False
theorem Zw2 {g:List Nat} {b:Bool} (o:Option Zm):Zbk g o ((o.map (XE g)).map fun o=>if b then Vr o else o):=by
 cases o with
 | none=>trivial
 | some o=>cases o<;>cases b<;>exact(by first | exact⟨rfl,rfl⟩ | exact rfl | exact⟨rfl,rfl,rfl,rfl⟩ | exact trivial)
theorem Zud {g:List Nat}:∀ {l:List AV} {ds:List D},ZfA l=some ds→l.map (ZU g)=l
 | [],ds,_=>rfl
 | v :: l,ds,h=>by
  simp only[ZfA] at h;obtain⟨x,h1,h⟩:=Za h;obtain⟨aa,h2,h⟩:=Za h;have:ZU g v=v:=by cases v<;>first | rfl | cases h1
  rw[Kh,this,Zud h2]
theorem ZqS {g:List Nat}:∀ {l:List AV} {ds:List D},ZfA (l.map (ZU g))=some ds→l.map (ZU g)=l
 | [],ds,_=>rfl
 | v :: l,ds,h=>by
  simp only[Kh,ZfA] at h;obtain⟨x,h1,h⟩:=Za h;obtain⟨aa,h2,h⟩:=Za h;have hv:ZU g v=v:=by
   refine ZeR ?_;cases hk:ZU g v<;>rw[hk] at h1<;>first | rfl | cases h1
  rw[Kh,hv,ZqS h2]
theorem Zhu (l:List AV):(∃ ds,ZfA l=some ds∧U9 l=.d (.agg ds))∨(ZfA l=none∧(U9 l=.junk∨U9 l=.agg l)):=by
 unfold U9;cases h:ZfA l with
 | some ds=>exact .inl ⟨ds,rfl,rfl⟩
 | none=>
  refine .inr ⟨rfl,?_⟩;unfold Uu;split
  ·rename_i h;cases h
  ·split
   ·exact .inl rfl
   ·exact .inr rfl
theorem ZlC:∀ {l:List AV},ZvW l=true→∀ c∈l,okC c=true
 | [],_,c,hc=>by simp at hc
 | x :: l,h,c,hc=>by
  simp only[ZvW,Kf] at h;rcases Ke.1 hc with rfl | hc
  ·exact h.1
  ·exact ZlC h.2 c hc
theorem ZBy {g:List Nat} {l:List AV} (h:okV (U9 l)=true) (hk:kill g (U9 l)=U9 l):l.map (ZU g)=l:=by
 rcases Zhu l with ⟨ds,h1,h2⟩ | ⟨h1,h2 | h2⟩
 ·exact Zud h1
 ·rw[h2] at h;cases h
 ·rw[h2] at h hk;simp only[kill,ZU,AV.agg.injEq] at hk;simp only[okV] at h;have hm:=ZlC h;have aa : ∀ c∈l,Qk g c=c:=by
   intro c hc;have:=ZkH (g:=g) (cs:=l) (by rw[hk];exact h);exact Znp (by
    have h3:Qk g c∈l.map (Qk g):=Kaz hc;rw[hk] at h3;exact hm _ h3)
  rw[K3 (g:=id),LL];intro c hc;exact ZBx (hm c hc) (aa c hc)
theorem ZBz {g:List Nat} {l:List AV} (h:okV (U9 (l.map (ZU g)))=true):l.map (ZU g)=l:=by
 rcases Zhu (l.map (ZU g)) with ⟨ds,h1,h2⟩ | ⟨h1,h2 | h2⟩
 ·exact ZqS h1
 ·rw[h2] at h;cases h
 ·rw[h2] at h;simp only[okV] at h;have hm:=ZlC h;rw[K3 (g:=id),LL];intro c hc;exact ZeR (ZAt (hm _ (Kaz hc)))
theorem ZyY {g:List Nat} {v:AV} (h:okV v=true) (hk:kill g v=v):ZU g v=v:=by
 cases v with
 | tup vs=>rfl
 | _=>simp only[kill] at hk;exact hk
theorem ZyZ {g:List Nat} {v:AV} (h:okV v=true) (hk:ZU g v=v):kill g v=v:=by
 cases v with
 | tup vs=>
  cases vs with
  | nil=>rfl
  | cons x r=>simp only[okV,okC] at h;cases h
 | _=>simp only[kill];exact hk
theorem ZjQ {α β:Type} (f:α→β) (l:List α) (a b:Nat):((l.map f).drop a).take b=((l.drop a).take b).map f:=by
 rw[← List.map_drop,← List.map_take]
theorem ZoG (g:List Nat) (c:AV):ZlL (ZU g c)=ZU g (ZlL c):=by
 have aa:∀ v:AV,(∀ a b,v≠.bbuf a b)→ZlL v=v:=fun v h'=>by cases v<;>first | rfl | exact absurd rfl (h' _ _)
 by_cases h' : ∃ a b,c=.bbuf a b
 ·obtain⟨a,b,rfl⟩:=h';rfl
 ·have h2:∀ a b,c≠.bbuf a b:=fun a b e=>h' ⟨a,b,e⟩;rw[aa c h2,aa];exact fun a b e=>h2 a b ((UM g c a b).1 e)
theorem Zw3 {g:List Nat} {cs:List AV} {a:Bool} {s off:Nat} {v:AV} (h:Zat a s off (some (.box cs))=some v) (ho:okV v=true) (hk:kill g v=v):Zat a s off (some (.box (cs.map (ZU g))))=some v:=by
 unfold Zat at h ⊢;cases a with
 | true=>
  simp only[Km] at h ⊢;split at h
  ·rename_i hl;cases h;rw[Kg (by simpa using hl),ZjQ,ZBy ho hk]
  ·cases h
 | false=>
  simp only[Ka,Kn] at h ⊢;obtain⟨c,hc,rfl⟩:=Option.map_eq_some_iff.1 h;rw[La,hc];simp only[Ld];rw[ZoG,ZyY ho hk]
theorem Zw4 {g:List Nat} {cs:List AV} {a:Bool} {s off:Nat} {v:AV} (h:Zat a s off (some (.box (cs.map (ZU g))))=some v) (ho:okV v=true):Zat a s off (some (.box cs))=some v∧kill g v=v:=by
 unfold Zat at h ⊢;cases a with
 | true=>
  simp only[Km] at h ⊢;split at h
  ·rename_i hl;cases h;rw[ZjQ] at ho ⊢;have he:=ZBz ho;rw[he] at ho ⊢;refine⟨by rw[Kg (by simpa using hl)],?_⟩;rcases Zhu ((cs.drop off).take s) with ⟨ds,h1,h2⟩ | ⟨h1,h2 | h2⟩
   ·rw[h2];rfl
   ·rw[h2] at ho;cases ho
   ·rw[h2] at ho ⊢;simp only[okV] at ho;have hm:=ZlC ho;simp only[kill,ZU,AV.agg.injEq];rw[K3 (g:=id),LL];intro c hc;have h3:ZU g c=c:=by
     refine ZeR ?_;have h4:ZU g c∈((cs.drop off).take s).map (ZU g):=Kaz hc;rw[he] at h4;exact ZAt (hm _ h4)
    have:=hm c hc;cases c<;>first | exact h3 | cases this
  ·cases h
 | false=>
  simp only[Ka,Kn] at h ⊢;rw[La] at h;cases hc:cs[off]? with
  | none=>rw[hc] at h;cases h
  | some c=>
   rw[hc] at h;simp only[Ld,Option.some.injEq] at h;rw[ZoG] at h;have h3:ZU g (ZlL c)=ZlL c:=ZeR (by rw[h];exact ho);rw[h3] at h;subst h;exact⟨rfl,ZyZ ho h3⟩
theorem ZaG {g:List Nat} {o o' : Option Zm} (h:Zbk g o o'):(∃ s xs e f e' f',o=some (.row s xs e f)∧o'=some (.row s xs e' f'))∨(o=none∧o'=none)∨(∃ cs,o=some (.box cs)∧o'=some (.box (cs.map (ZU g))))∨(o=some .gone∧o'=some .gone)∨(∃ s n xs l,o=some (.tree s n xs l)∧o'=some (.tree s n xs (Wm g l))):=by
 cases o with
 | none=>cases o' with
  | none=>exact .inr (.inl ⟨rfl,rfl⟩)
  | some o'=>cases h
 | some o=>cases o' with
  | none=>cases o<;>cases h
  | some o' =>
   cases o with
   | box cs=>cases o' with
    | box cs'=>simp only[Zbk] at h;subst h;exact .inr (.inr (.inl ⟨cs,rfl,rfl⟩))
    | row _ _ _ _=>cases h
    | gone=>cases h
    | tree _ _ _ _=>cases h
   | row s xs e f=>cases o' with
    | box cs'=>cases h
    | row s' xs' e' f'=>simp only[Zbk] at h;obtain⟨rfl,rfl⟩:=h;exact .inl ⟨_,_,_,_,_,_,rfl,rfl⟩
    | gone=>cases h
    | tree _ _ _ _=>cases h
   | gone=>cases o' with
    | box cs'=>cases h
    | row _ _ _ _=>cases h
    | gone=>exact .inr (.inr (.inr (.inl ⟨rfl,rfl⟩)))
    | tree _ _ _ _=>cases h
   | tree s n xs l=>cases o' with
    | box cs'=>cases h
    | row _ _ _ _=>cases h
    | gone=>cases h
    | tree s' n' xs' l'=>simp only[Zbk] at h;obtain⟨rfl,rfl,rfl,rfl⟩:=h;exact .inr (.inr (.inr (.inr ⟨_,_,_,_,rfl,rfl⟩)))
section
variable {g:List Nat} {o o' : Option Zm}
theorem ZvI (h:Zbk g o o') (sz id n:Nat):Zdq sz id n o'=Zdq sz id n o:=by
 rcases ZaG h with ⟨s,xs,e,f,e',f',rfl,rfl⟩ | ⟨rfl,rfl⟩ | ⟨cs,rfl,rfl⟩ | ⟨rfl,rfl⟩ | ⟨s,n,xs,l,rfl,rfl⟩<;>rfl
theorem Ztj (h:Zbk g o o') (sz id off m n:Nat):Zb8 sz id off m n o'=Zb8 sz id off m n o:=by
 rcases ZaG h with ⟨s,xs,e,f,e',f',rfl,rfl⟩ | ⟨rfl,rfl⟩ | ⟨cs,rfl,rfl⟩ | ⟨rfl,rfl⟩ | ⟨s,n,xs,l,rfl,rfl⟩<;>rfl
theorem Ztk (h:Zbk g o o') (s id:Nat) (lo hi:Option AV):Zb9 s id lo hi o'=Zb9 s id lo hi o:=by
 rcases ZaG h with ⟨s,xs,e,f,e',f',rfl,rfl⟩ | ⟨rfl,rfl⟩ | ⟨cs,rfl,rfl⟩ | ⟨rfl,rfl⟩ | ⟨s,n,xs,l,rfl,rfl⟩<;>rfl
theorem ZqT (h:Zbk g o o') (s id off n:Nat) (lo hi:Option AV):J9 s id off n lo hi o'=J9 s id off n lo hi o:=by
 rcases ZaG h with ⟨s,xs,e,f,e',f',rfl,rfl⟩ | ⟨rfl,rfl⟩ | ⟨cs,rfl,rfl⟩ | ⟨rfl,rfl⟩ | ⟨s,n,xs,l,rfl,rfl⟩<;>rfl
theorem ZvJ {i off:Nat} {l:Option (Option Nat×Nat×Nat)} {x:D} {v:AV} (h:Jd i off l x=some v) (hk:kill g v=v):Jd i off (Wm g l) x=some v:=by
 unfold Jd at h ⊢;split at h
 ·unfold ZoP at h;split at h
  ·rename_i nm i' c;split at h
   ·rename_i hc;cases h;have:g.contains nm=false:=by
     cases hg:g.contains nm with
     | false=>rfl
     | true=>simp only[kill,ZU,Qk,hg,Km] at hk;cases hk
    simp only[Wm,this,Ka,Kn,ZoP,hc,and_self,Km]
   ·cases h
  ·cases h
 ·exact h
 ·cases h
theorem ZvK {i off:Nat} {l:Option (Option Nat×Nat×Nat)} {x:D} {v:AV} (h:Jd i off (Wm g l) x=some v):Jd i off l x=some v∧kill g v=v:=by
 unfold Jd at h ⊢;split at h
 ·unfold ZoP at h;split at h
  ·rename_i nm i' c hl;split at h
   ·rename_i hc;cases h;unfold Wm at hl;split at hl
    ·rename_i ab q;split at hl
     ·cases hl
     ·rename_i hg;cases hl;simp only[LD] at hg;exact⟨by simp only[ZoP,hc,and_self,Km],by simp only[kill,ZU,Qk,hg,Ka,Kn]⟩
    ·rename_i aa;subst hl;exact absurd rfl (aa _ _)
   ·cases h
  ·cases h
 ·split at h
  ·rename_i hp;cases h;exact⟨by rw[Kg hp],rfl⟩
  ·cases h
 ·cases h
theorem ZlD {id:Nat} (h:Zbk g o o') {a:Bool} {s sz i off:Nat} {v:AV}:(Je id a s sz i off o=some v→kill g v=v→Je id a s sz i off o'=some v)∧(Je id a s sz i off o'=some v→Je id a s sz i off o=some v∧kill g v=v):=by
 have aa:∀ {cs:List D},Zb6 a s off cs=some v→∃ d,v=.d d:=by
  intro cs h;unfold Zb6 at h;split at h
  ·split at h
   ·cases h;exact⟨_,rfl⟩
   ·cases h
  ·unfold asD at h;obtain⟨y,_,h⟩:=Za h;cases h;exact⟨_,rfl⟩
 rcases ZaG h with ⟨s,xs,e,f,e',f',rfl,rfl⟩ | ⟨rfl,rfl⟩ | ⟨cs,rfl,rfl⟩ | ⟨rfl,rfl⟩ | ⟨s,n,xs,l,rfl,rfl⟩
 ·refine⟨fun h _=>h,fun h=>⟨h,?_⟩⟩;simp only[Je] at h;split at h
  ·obtain⟨x,_,h⟩:=Za h;unfold ZlM at h;split at h
   ·obtain⟨d,rfl⟩:=aa h;rfl
   ·cases h
  ·cases h
 ·exact⟨fun h _=>(by cases h),fun h=>(by cases h)⟩
 ·exact⟨fun h _=>(by cases h),fun h=>(by cases h)⟩
 ·exact⟨fun h _=>(by cases h),fun h=>(by cases h)⟩
 ·simp only[Je];split
  ·split
   ·exact⟨fun h _=>(by cases h),fun h=>(by cases h)⟩
   ·constructor
    ·intro hh hk;obtain⟨x,h1,hh⟩:=Za hh;rw[h1,Zh];exact ZvJ hh hk
    ·intro hh;obtain⟨x,h1,hh⟩:=Za hh;rw[h1,Zh];exact ZvK hh
  ·exact⟨fun h _=>(by cases h),fun h=>(by cases h)⟩
end
section
variable {hp hp' : Hp} {g:List Nat}
def ZlE (g:List Nat) (hp hp' : Hp) (v:AV):Prop:=∀ k∈Zy v,Zbk g (lkp hp k) (lkp hp' k)
theorem ZC1 {o o' : Option Zm} (h:Zbk g o o'):Zq7 o'=Zq7 o:=by
 rcases ZaG h with ⟨s,xs,e,f,e',f',rfl,rfl⟩ | ⟨rfl,rfl⟩ | ⟨cs,rfl,rfl⟩ | ⟨rfl,rfl⟩ | ⟨s,n,xs,l,rfl,rfl⟩<;>rfl
theorem ZeS {v:AV} (h:ZlE g hp hp' v):ZdQ hp' v=ZdQ hp v:=by
 cases v<;>simp only[ZdQ]
 case d x=>cases x<;>rfl
 case own id=>rw[ZC1 (h id (by simp[Zy,ZC,Zq]))]
theorem ZaX {v:AV} (h:ZlE g hp hp' v) (sz n:Nat):QK hp' sz n v=QK hp sz n v:=by
 cases v<;>simp only[QK]
 case d x=>cases x<;>rfl
 case own id=>rw[ZvI (h id (by simp[Zy,ZC,Zq]))]
 case ownv id off n=>rw[Ztj (h id (by simp[Zy,ZC,Zq]))]
theorem Zhv {v:AV} (h:ZlE g hp hp' v) (s:Nat) (lo hi:Option AV):VY hp' s lo hi v=VY hp s lo hi v:=by
 cases v<;>simp only[VY]
 case d x=>cases x<;>rfl
 case own id=>rw[Ztk (h id (by simp[Zy,ZC,Zq]))]
 case ownv id off n=>rw[ZqT (h id (by simp[Zy,ZC,Zq]))]
theorem ZBA {x v:AV} (hs:ZlE g hp hp' x) {a:Bool} {s:Nat} (h:Ue hp a s x=some v) (ho:okV v=true) (hk:kill g v=v):Ue hp' a s x=some v:=by
 cases x<;>simp only[Ue] at h ⊢ <;> first | (cases h;done) | skip
 case ptr id off=>
  rcases ZaG (hs id (by simp[Zy,ZC,Zq])) with ⟨_,_,_,_,_,_,e1,e2⟩ | ⟨e1,e2⟩ | ⟨cs,e1,e2⟩ | ⟨e1,e2⟩ | ⟨_,_,_,_,e1,e2⟩
  ·rw[e1] at h;cases h
  ·rw[e1] at h;cases h
  ·rw[e1] at h;rw[e2];exact Zw3 h ho hk
  ·rw[e1] at h;cases h
  ·rw[e1] at h;cases h
 case prow id sz i off=>exact(ZlD (hs id (by simp[Zy,ZC,Zq]))).1 h hk
 case pim cs=>exact h
theorem ZC2 {a:Bool} {s off:Nat} {cs:List D} {v:AV} (h:Zb6 a s off cs=some v):∃ d,v=.d d:=by
 unfold Zb6 at h;split at h
 ·split at h
  ·cases h;exact⟨_,rfl⟩
  ·cases h
 ·unfold asD at h;obtain⟨y,_,h⟩:=Za h;cases h;exact⟨_,rfl⟩
theorem ZBB {x v:AV} (hs:ZlE g hp hp' x) {a:Bool} {s:Nat} (h:Ue hp' a s x=some v) (ho:okV v=true):Ue hp a s x=some v∧kill g v=v:=by
 cases x<;>simp only[Ue] at h ⊢ <;> first | (cases h;done) | skip
 case ptr id off=>
  rcases ZaG (hs id (by simp[Zy,ZC,Zq])) with ⟨_,_,_,_,_,_,e1,e2⟩ | ⟨e1,e2⟩ | ⟨cs,e1,e2⟩ | ⟨e1,e2⟩ | ⟨_,_,_,_,e1,e2⟩
  ·rw[e2] at h;cases h
  ·rw[e2] at h;cases h
  ·rw[e2] at h;rw[e1];exact Zw4 h ho
  ·rw[e2] at h;cases h
  ·rw[e2] at h;cases h
 case prow id sz i off=>
  exact(ZlD (hs id (by simp[Zy,ZC,Zq]))).2 h
 case pim cs=>
  obtain⟨d,rfl⟩:=ZC2 h;exact⟨h,rfl⟩
theorem ZoH {x:AV} {d:D} {e:Bool} (h:Zbn hp x=some (d,e,[])) (hp' : Hp):Zbn hp' x=some (d,e,[]):=by
 cases x<;>simp only[Zbn] at h ⊢ <;> first | exact h | skip
 case own id=>obtain⟨q,_,h⟩:=Za h;simp at h
theorem ZoI:∀ {xs:List AV} {d:List D} {e:Bool},V3 hp xs=some (d,e,[])→∀ hp' : Hp,V3 hp' xs=some (d,e,[])
 | [],d,e,h,hp'=>h
 | x :: xs,d,e,h,hp'=>by
  simp only[V3] at h ⊢;obtain⟨⟨d1,e1,l1⟩,h1,h⟩:=Za h;obtain⟨⟨d2,e2,l2⟩,h2,h⟩:=Za h;have hl:l1=[]∧l2=[]:=by
   simp only at h;split at h
   ·simp only[Option.some.injEq,Prod.mk.injEq,Kaj] at h;exact h.2.2
   ·cases h
  obtain⟨rfl,rfl⟩:=hl;rw[ZoH h1 hp',Zh,ZoI h2 hp',Zh];exact h
theorem Zy0 {x:AV} {d:D} {e:Bool} (h:give hp x=some (d,e,[])) (hp' : Hp):give hp' x=some (d,e,[]):=by
 cases x<;>simp only[give] at h ⊢ <;> first | exact ZoH h hp' | skip
 case agg cs=>
  obtain⟨⟨d1,e1,l1⟩,h1,h⟩:=Za h;simp only[Option.some.injEq,Prod.mk.injEq] at h;obtain⟨rfl,rfl,rfl⟩:=h;rw[ZoI h1 hp',Zh]
theorem ZjR:∀ {xs:List AV} {d:List D} {e:Bool},WL hp xs=some (d,e,[])→∀ hp' : Hp,WL hp' xs=some (d,e,[])
 | [],d,e,h,hp'=>h
 | x :: xs,d,e,h,hp'=>by
  simp only[WL] at h ⊢;obtain⟨⟨d1,e1,l1⟩,h1,h⟩:=Za h;obtain⟨⟨d2,e2,l2⟩,h2,h⟩:=Za h;have hl:l1=[]∧l2=[]:=by
   simp only at h;split at h
   ·simp only[Option.some.injEq,Prod.mk.injEq,Kaj] at h;exact h.2.2
   ·cases h
  obtain⟨rfl,rfl⟩:=hl;rw[Zy0 h1 hp',Zh,ZjR h2 hp',Zh];exact h
theorem ZjS {base s:Nat} {vs:List AV} {ce:Zf} (h:buildSl hp base s vs=some ce) (hf:ce.eff.frz=[]) (hp' : Hp) :
  buildSl hp' base s vs=some ce∧(ce.eff.val=.nil∨ce.eff.val=.own base)∧(∀ k o,(k,o)∈ce.eff.adds→∃ sz xs e f,o=.row sz xs e f):=by
 cases vs with
 | nil=>simp only[buildSl,QR] at h ⊢;cases h;exact⟨rfl,.inl rfl,fun k o h=>by simp at h⟩
 | cons v vs=>
  simp only[buildSl] at h ⊢;obtain⟨⟨ds,e,l⟩,h1,h⟩:=Za h;unfold ZBP at h;split at h
  ·rename_i hc;cases h;simp only at hf;subst hf;rw[ZjR h1 hp',Zh];refine⟨?_,.inr rfl,fun k o ho=>?_⟩
   ·unfold ZBP;rw[Kg hc]
   ·simp at ho;obtain⟨rfl,rfl⟩:=ho;exact⟨_,_,_,_,rfl⟩
  ·cases h
end
theorem ZlF {C:Orc} {M:Zr} {sl:Sl} {hp hp' : Hp} {base:Nat} {c:COp} (hc:Wp c=true):vop C M sl hp base c=vop C M sl hp' base c:=by
 cases c<;>first | rfl | (simp[Wp] at hc)
section
variable {C:Orc} {M:Zr} {sl sl' : Sl} {hp hp' : Hp} {base:Nat} {g:List Nat}
theorem Qh {v:AV} {ce:Zf} (h:QR v=some ce):ce.eff.adds=[]:=by cases h;rfl
theorem QX {v:Option AV} {ce:Zf} (h:Wd v=some ce):ce.eff.adds=[]:=by obtain⟨v,_,h⟩:=Za h;exact Qh h
theorem ZaH {v:Option AV} {ce:Zf} (h:Wd v=some ce):v=some ce.eff.val:=by obtain⟨v,rfl,h⟩:=Za h;cases h;rfl
theorem ZAv {v:Option AV} {ce:Zf} {w:Option AV} (h:Wd v=some ce) (hw:w=some ce.eff.val):Wd w=some ce:=by
 obtain⟨v,rfl,h⟩:=Za h;cases h;rw[hw];rfl
theorem Zy1 {c:COp} (hc:Wp c=true) (hv:Zzb c=true) {ce:Zf} (h:vop C M sl hp base c=some ce):ce.eff.adds=[]:=by
 cases c<;>simp only[Wp,Zzb,Ka] at hc hv<;>simp only[vop] at h
 case stuck=>cases h
 case move x=>exact Qh h
 case pick c a b=>
  unfold ZhI at h;split at h
  ·split at h<;>exact Qh h
  ·cases h
 case build zs ps=>obtain⟨cs,_,h⟩:=Za h;exact Qh h
 case nilCheck x=>unfold Zaa at h;split at h<;>first | exact Qh h | cases h
 case bin op eq x y=>
  unfold Zpu at h;split at h
  ·split at h
   ·exact QX h
   ·cases h
  ·exact QX h
 case un op x=>exact QX h
 case eqA neg n x y=>
  unfold ZvR at h;split at h
  ·obtain⟨r,_,h⟩:=Za h;exact Qh h
  ·cases h
 case convI k x=>unfold Go.Abs.convI at h;split at h<;>first | exact Qh h | cases h
 case convS x=>unfold Go.Abs.convS at h;split at h<;>first | exact Qh h | cases h
 case sliceS x lo hi=>exact QX h
 case shift off x=>unfold Wo at h;split at h<;>first | exact Qh h | cases h
 case part g s off x=>exact QX h
 case iaA len s x i=>
  obtain⟨n,_,h⟩:=Za h;unfold Zre at h;split at h
  ·unfold Wo at h;split at h<;>first | exact Qh h | cases h
  ·cases h
 case ixS x i=>
  obtain⟨n,_,h⟩:=Za h;unfold Zy7 at h;split at h
  ·unfold Zxj at h;split at h
   ·obtain⟨b,_,h⟩:=Za h;exact Qh h
   ·cases h
  ·cases h
 case ixA g s len x i=>
  obtain⟨n,_,h⟩:=Za h;unfold ZBQ at h;split at h
  ·exact QX h
  ·cases h
 case nth i x=>unfold Zxk at h;split at h<;>first | exact QX h | cases h
 case lenS x=>obtain⟨n,_,h⟩:=Za h;exact Qh h
 case min x y=>unfold ZoQ at h;split at h<;>first | (split at h<;>first | exact Qh h | cases h) | cases h
 case max x y=>unfold ZoR at h;split at h<;>first | (split at h<;>first | exact Qh h | cases h) | cases h
theorem ZoJ {c:AV} (h:ZdV c=true):ZU g c=c:=by cases c<;>first | rfl | cases h
theorem Zfw:∀ {cs:List AV},VG cs=true→∀ c∈cs,ZdV c=true
 | [],_,c,hc=>by simp at hc
 | x :: l,h,c,hc=>by
  simp only[VG,Kf] at h;rcases Ke.1 hc with rfl | hc
  ·exact h.1
  ·exact Zfw h.2 c hc
theorem Znq:∀ (slc:List (Option Nat)) (cs:List AV) (b:Nat),(∀ c∈(mat slc cs b).1,c∈cs∨∃ k o,c=.own k∧(k,o)∈(mat slc cs b).2)∧∀ k o,(k,o)∈(mat slc cs b).2→∃ sz,o=.row sz [] true false
 | [],cs,b=>by simp only[mat];exact⟨fun c hc=>.inl hc,fun k o h=>by simp at h⟩
 | t :: ts,[],b=>by cases t<;>(simp only[mat];exact⟨fun c hc=>.inl hc,fun k o h=>by simp at h⟩)
 | t :: ts,v :: vs,b=>by
  by_cases hv:(∃ sz,t=some sz)∧v=.nil
  ·obtain⟨⟨sz,rfl⟩,rfl⟩:=hv;obtain⟨h1,h2⟩:=Znq ts vs (b+1);simp only[mat];refine⟨fun c hc=>?_,fun k o h=>?_⟩
   ·rcases Ke.1 hc with rfl | hc
    ·exact .inr ⟨b,_,rfl,Lm ..⟩
    ·rcases h1 c hc with h | ⟨k,o,e,h⟩
     ·exact .inl (KA _ h)
     ·exact .inr ⟨k,o,e,KA _ h⟩
   ·rcases Ke.1 h with h | h
    ·cases h;exact⟨_,rfl⟩
    ·exact h2 k o h
  ·obtain⟨h1,h2⟩:=Znq ts vs b;have e:mat (t :: ts) (v :: vs) b=(v :: (mat ts vs b).1,(mat ts vs b).2):=by
    cases t with
    | none=>simp[mat]
    | some sz=>cases v<;>first | (exact absurd ⟨⟨sz,rfl⟩,rfl⟩ hv) | simp[mat]
   rw[e];refine⟨fun c hc=>?_,h2⟩;rcases Ke.1 hc with rfl | hc
   ·exact .inl (Lm ..)
   ·rcases h1 c hc with h | h
    ·exact .inl (KA _ h)
    ·exact .inr h
theorem Zue {base:Nat}:∀ {cs:List AV},VG cs=true→cs.map (ZkM base)=cs
 | [],_=>rfl
 | c :: cs,h=>by
  simp only[VG,Kf] at h;rw[Kh,Zue h.2];congr 1
  cases c<;>first | rfl | (simp[ZdV] at h)
theorem Zuf:∀ {cs:List AV},VG cs=true→X3 cs=true
 | [],_=>rfl
 | c :: cs,h=>by
  simp only[VG,Kf] at h;have:=Zuf h.2;cases c<;>first | exact this | (simp[ZdV] at h)
theorem ZoK {slc:List (Option Nat)} {cs:List AV} {ce:Zf} (hb:∀ k,base≤k→k<base+64→k∉g) (hc:VG cs=true) (h:ZhJ slc base cs=some ce) (ad:Q9 base (base+64) ce.eff.adds=true) :
  (∀ id∈Zy ce.eff.val,id∉g)∧∀ k o,(k,o)∈ce.eff.adds→XE g o=o:=by
 have hr:=UX ad;unfold ZhJ at h;rw[Zue hc] at h;unfold Zrb at h;rw[Kd (by rw[Zuf hc];decide)] at h;split at h
 ·cases h;simp only at hr ⊢;obtain⟨h1,h2⟩:=Znq slc cs (base+1);refine⟨fun id aa=>?_,fun k o hm=>?_⟩
  ·simp[Zy,ZC,Zq] at aa;subst aa;exact hb _ (Kr _) o_
  ·rcases Ke.1 hm with hm | hm
   ·cases hm;simp only[XE];congr 1
    rw[K3 (g:=id),LL];intro c ab;rcases h1 c ab with h | ⟨k,o,rfl,h⟩
    ·exact ZoJ (Zfw hc c h)
    ·have:=hr k o (KA _ h);have hk:=hb k this.1 this.2;simp[ZU,Qk,hk]
   ·obtain⟨sz,rfl⟩:=h2 k o hm;rfl
 ·cases h;simp only at hr ⊢;refine⟨fun id aa=>?_,fun k o hm=>?_⟩
  ·simp[Zy,ZC,Zq] at aa;subst aa;exact hb _ (Kr _) o_
  ·simp at hm;obtain⟨rfl,rfl⟩:=hm;simp only[XE];congr 1
   rw[K3 (g:=id),LL];exact fun c ab=>ZoJ (Zfw hc c ab)
theorem ZBC {c:COp} (hc:Zrk c=true) (he:∀ x∈ZF c,evO sl' x=evO sl x) (hs:∀ x∈ZF c,ZlE g hp hp' (evO sl x)) {ce:Zf}
  (hb:∀ k,base≤k→k<base+64→k∉g) (h:vop C M sl hp base c=some ce) (ab:Q9 base (base+64) ce.eff.adds=true) (ad:ce.eff.frz=[]) (ho:okV ce.eff.val=true) (hk:kill g ce.eff.val=ce.eff.val):vop C M sl' hp' base c=some ce∧∀ k o,(k,o)∈ce.eff.adds→XE g o=o:=by
 rw[Xw C M hp' base he];have aa:ce.eff.adds=[]→∀ k o,(k,o)∈ce.eff.adds→XE g o=o:=fun e k o hm=>by rw[e] at hm;simp at hm
 simp only[Zrk,Lx,Kf] at hc;rcases hc with ((hc | hc) | ⟨hc1,hc2⟩) | hc
 ·cases c<;>simp only[Jj,Ka] at hc<;>simp only[vop] at h ⊢ <;> simp only[ZF] at hs
  case load a s x=>exact⟨ZAv h (ZBA (hs x (by simp)) (ZaH h) ho hk),aa (QX h)⟩
  case slice s x lo hi=>
   rw[Zhv (hs x (by simp))];exact⟨h,aa (QX h)⟩
  case slice0 x hi mx=>
   unfold slice0 at h ⊢;rw[ZeS (hs x (by simp))];exact⟨h,aa (QX h)⟩
  case iaS s x i=>
   obtain⟨n,h1,h⟩:=Za h;rw[h1,Zh];unfold ZjX at h ⊢;rw[ZaX (hs x (by simp))];refine⟨h,aa ?_⟩;split at h
   ·exact QX h
   ·cases h
  case len x=>
   rw[ZeS (hs x (by simp))];refine⟨h,aa ?_⟩;obtain⟨n,_,h⟩:=Za h;exact Qh h
 ·cases c<;>simp only[Zuw,Ka] at hc
  simp only[vop] at h ⊢;obtain⟨h1,h2,h3⟩:=ZjS h ad hp';refine⟨h1,fun k o hm=>?_⟩;obtain⟨sz,xs,e,f,rfl⟩:=h3 k o hm;rfl
 ·rw[← ZlF (hp:=hp) hc1];exact⟨h,aa (Zy1 hc1 hc2 h)⟩
 ·cases c<;>simp only[Zqa,Ka] at hc
  simp only[vop] at h ⊢;exact⟨h,(ZoK hb hc h ab).2⟩
theorem Zy2 {c:COp} (hc:ZlW c=true) (he:∀ x∈ZF c,evO sl' x=evO sl x) (hs:∀ x∈ZF c,ZlE g hp hp' (evO sl x)) {ce:Zf}
  (hn:∀ x∈ZF c,∀ id∈Zy (evO sl x),id∉g) (hb:∀ k,base≤k→k<base+64→k∉g)
  (h:vop C M sl' hp' base c=some ce) (ad:Q9 base (base+64) ce.eff.adds=true) (ae:ce.eff.frz=[]) (ho:okV ce.eff.val=true):vop C M sl hp base c=some ce∧kill g ce.eff.val=ce.eff.val∧∀ k o,(k,o)∈ce.eff.adds→XE g o=o:=by
 rw[Xw C M hp' base he] at h;have aa:ce.eff.adds=[]→∀ k o,(k,o)∈ce.eff.adds→XE g o=o:=fun e k o hm=>by rw[e] at hm;simp at hm
 have names:(∀ id∈Zy ce.eff.val,id∉g)→kill g ce.eff.val=ce.eff.val:=ZAu ho;cases c<;>simp only[ZlW,Ka] at hc<;>simp only[vop] at h ⊢ <;> simp only[ZF] at hs hn
 case alloc slc cs=>
  obtain⟨h1,h2⟩:=ZoK hb hc h ad;exact⟨h,names h1,h2⟩
 case buildSl s xs=>
  obtain⟨h1,h2,h3⟩:=ZjS h ae hp;refine⟨h1,names fun id ab=>?_,fun k o hm=>?_⟩
  ·rcases h2 with h2 | h2
   ·rw[h2] at ab;simp[Zy,ZC,Zq] at ab
   ·rw[h2] at ab;simp[Zy,ZC,Zq] at ab;subst ab;exact hb _ (Kr _) o_
  ·obtain⟨sz,xs,e,f,rfl⟩:=h3 k o hm;rfl
 case load a s x=>
  obtain⟨h1,h2⟩:=ZBB (hs x (by simp)) (ZaH h) ho;exact⟨ZAv h h1,h2,aa (QX h)⟩
 case nilCheck x=>
  have hx:=hn x (by simp);refine⟨h,names ?_,aa ?_⟩
  ·unfold Zaa at h;split at h<;>rename_i hv<;>first | (cases h;done) | (cases h;show ∀ id∈Zy _,_;rw[← hv];exact hx)
  ·unfold Zaa at h;split at h<;>first | exact Qh h | cases h
 case bin op eq x y=>
  have hd:∃ d,ce.eff.val=.d d:=by
   have o2:∀ {a b:AV},Wd (vbin op a b)=some ce→∃ d,ce.eff.val=.d d:=fun {a b} h=>by
    have h1:=ZaH h;unfold vbin at h1;split at h1
    ·unfold Jc at h1;split at h1
     ·obtain⟨y,_,h1⟩:=Za h1;exact⟨_,(Option.some.inj h1).symm⟩
     ·obtain⟨y,_,h1⟩:=Za h1;exact⟨_,(Option.some.inj h1).symm⟩
     ·split at h1
      ·obtain⟨y,_,h1⟩:=Za h1;have:=Option.some.inj h1;exact⟨_,this.symm⟩
      ·cases h1
    ·obtain⟨y,_,h1⟩:=Za h1;have:=Option.some.inj h1;exact⟨_,this.symm⟩
    ·cases h1
   unfold Zpu at h;split at h
   ·split at h
    ·have h1:=ZaH h;unfold Zut at h1;split at h1
     ·exact⟨_,(Option.some.inj h1).symm⟩
     ·exact⟨_,(Option.some.inj h1).symm⟩
     ·cases h1
    ·cases h
   ·exact o2 h
  obtain⟨d,hd⟩:=hd;refine⟨h,by rw[hd];rfl,aa ?_⟩;unfold Zpu at h;split at h
  ·split at h
   ·exact QX h
   ·cases h
  ·exact QX h
 case un op x=>
  have hd:∃ d,ce.eff.val=.d d:=by
   have h1:=ZaH h;unfold vun at h1;split at h1
   ·unfold neg1 at h1;split at h1
    ·exact⟨_,(Option.some.inj h1).symm⟩
    ·cases h1
   ·unfold not1 at h1;split at h1
    ·exact⟨_,(Option.some.inj h1).symm⟩
    ·cases h1
   ·cases h1
  obtain⟨d,hd⟩:=hd;exact⟨h,by rw[hd];rfl,aa (QX h)⟩
 case convI k x=>
  unfold Go.Abs.convI at h ⊢;split at h
  ·exact⟨h,by cases h;rfl,aa (Qh h)⟩
  ·cases h
 case shift off x=>
  have hx:=hn x (by simp);refine⟨h,names ?_,aa ?_⟩
  ·unfold Wo at h;split at h<;>rename_i hv<;>first | (cases h;done) | skip
   ·cases h;rw[hv] at hx;simpa [Zy,ZC,Zq] using hx
   ·cases h;rw[hv] at hx;simpa [Zy,ZC,Zq] using hx
   ·cases h;simp[Zy,ZC,Zq]
  ·unfold Wo at h;split at h<;>first | exact Qh h | cases h
 case slice s x lo hi=>
  have hx:=hn x (by simp);rw[Zhv (hs x (by simp))] at h;refine⟨h,names ?_,aa (QX h)⟩;have h1:=ZaH h;cases hv:evO sl x<;>rw[hv] at h1 hx<;>simp only[VY] at h1<;>first | (cases h1;done) | skip
  case d y=>
   cases y<;>simp only[VY] at h1<;>first | (cases h1;done) | skip
   split at h1
   ·obtain⟨b,_,h1⟩:=Za h1;rw[← Option.some.inj h1];simp[Zy,ZC,Zq]
   ·cases h1
  case nil=>obtain⟨b,_,h1⟩:=Za h1;rw[← Option.some.inj h1];simp[Zy,ZC,Zq]
  case own id=>
   unfold Zb9 at h1;split at h1
   ·split at h1
    ·unfold Zxh at h1;split at h1
     ·rw[← Option.some.inj h1];exact hx
     ·obtain⟨b,_,h1⟩:=Za h1;rw[← Option.some.inj h1];simpa [Zy,ZC,Zq] using hx
    ·cases h1
   ·cases h1
  case ownv id off n=>
   unfold J9 at h1;split at h1
   ·split at h1
    ·obtain⟨b,_,h1⟩:=Za h1;rw[← Option.some.inj h1];simpa [Zy,ZC,Zq] using hx
    ·cases h1
   ·cases h1
 case sliceS x lo hi=>
  have hd:∃ d,ce.eff.val=.d d:=by
   have h1:=ZaH h;unfold sliceS at h1;split at h1
   ·obtain⟨b,_,h1⟩:=Za h1;exact⟨_,(Option.some.inj h1).symm⟩
   ·cases h1
  obtain⟨d,hd⟩:=hd;exact⟨h,by rw[hd];rfl,aa (QX h)⟩
 case lenS x=>
  obtain⟨n,h1,h⟩:=Za h;refine⟨by rw[h1,Zh];exact h,by cases h;rfl,aa (Qh h)⟩
 case iaS s x i=>
  have hx:=hn x (by simp);obtain⟨n,h1,h⟩:=Za h;rw[h1,Zh];unfold ZjX at h ⊢;rw[ZaX (hs x (by simp))] at h;refine⟨h,names ?_,aa ?_⟩
  ·split at h
   ·have h1:=ZaH h;cases hv:evO sl x<;>rw[hv] at h1 hx<;>simp only[QK] at h1<;>first | (cases h1;done) | skip
    case d y=>
     cases y<;>simp only[QK] at h1<;>first | (cases h1;done) | skip
     obtain⟨b,_,h1⟩:=Za h1;unfold ZAD at h1;split at h1
     ·rw[← Option.some.inj h1];simp[Zy,ZC,Zq]
     ·cases h1
    case own id=>
     unfold Zdq at h1;split at h1
     ·split at h1
      ·rw[← Option.some.inj h1];simpa [Zy,ZC,Zq] using hx
      ·cases h1
     ·split at h1
      ·rw[← Option.some.inj h1];simpa [Zy,ZC,Zq] using hx
      ·cases h1
     ·cases h1
    case ownv id off n=>
     unfold Zb8 at h1;split at h1
     ·split at h1
      ·rw[← Option.some.inj h1];simpa [Zy,ZC,Zq] using hx
      ·cases h1
     ·cases h1
   ·cases h
  ·split at h
   ·exact QX h
   ·cases h
 case len x=>
  rw[ZeS (hs x (by simp))] at h;obtain⟨n,h1,h2⟩:=Za h;exact⟨h,by cases h2;rfl,aa (Qh h2)⟩
end
end Go.Abs
namespace Go.Abs
open Go
theorem ZBD {hp:Hp} {m:Bool} {x y:AV} (h:Zdh hp m x=some y):∀ k∈J1 y,k∈J1 x:=by
 intro k hk;have aa:∀ {r:Option D},asD r=some y→False:=fun {r} h=>by
  obtain⟨d,_,h⟩:=Za h;cases h;simp[J1] at hk
 cases x<;>simp only[Zdh] at h<;>first | (exact(aa h).elim) | skip
 case d d=>cases h;simp[J1] at hk
 case nil=>cases m<;>simp only[ZhF] at h<;>(cases h;simp[J1] at hk)
 case nilp=>cases h;exact hk
 case nili=>cases h;exact hk
 case ptr a b=>cases h;exact hk
 case pim c=>cases h;exact hk
 case clo f c=>cases h;exact hk
 case own id=>
  cases m<;>simp only[ZfE] at h
  ·exact(aa h).elim
  ·cases h;simp[J1] at hk
 case agg cs=>
  cases m<;>simp only[ZfF] at h
  ·exact(aa h).elim
  ·split at h
   ·cases h
   ·cases h;simp[J1] at hk
theorem Zug {hp:Hp} {m:Nat→Bool}:∀ {xs ys:List AV} (i:Nat),args hp m i xs=some ys→∀ y∈ys,∀ k∈J1 y,∃ x∈xs,k∈J1 x
 | [],ys,i,h,y,hy,k,hk=>by simp only[args] at h;cases h;simp at hy
 | x :: xs,ys,i,h,y,hy,k,hk=>by
  simp only[args] at h;obtain⟨a,h1,h⟩:=Za h;obtain⟨as1,h2,h⟩:=Za h;cases h;rcases Ke.1 hy with rfl | hy
  ·exact⟨x,by simp,ZBD h1 k hk⟩
  ·obtain⟨x',h3,h4⟩:=Zug (i+1) h2 y hy k hk;exact⟨x',by simp[h3],h4⟩
theorem ZqU {x:AV}:∀ id∈Zdp x,id∈Zq x:=by
 intro id h;cases x<;>simp[Zdp] at h<;>simp[Zq,h]
theorem Zw5 {x:AV}:∀ id∈ZfB x,id∈Zy x:=by
 intro id h;cases x<;>simp only[ZfB] at h<;>first | exact ZqU id h | (simp[Zdp] at h;done) | skip
 case agg cs=>
  obtain⟨c,h1,h2⟩:=KC.1 h;exact KC.2 ⟨c,h1,ZqU id h2⟩
theorem ZoL:∀ {xs ys:List AV},∀ i∈YV xs ys,∃ x∈xs,i∈Zy x
 | [],ys,i,h=>by cases ys<;>simp[YV] at h
 | x :: xs,[],i,h=>by simp[YV] at h
 | x :: xs,y :: ys,i,h=>by
  have aa:i∈YV xs ys→∃ x'∈x :: xs,i∈Zy x':=fun h=>by
   obtain⟨x',h1,h2⟩:=ZoL i h;exact⟨x',by simp[h1],h2⟩
  rw[Zos] at h;rcases Kj.1 h with h | h
  ·cases y<;>simp only[ZAi] at h<;>first | (simp at h;done) | exact⟨x,by simp,Zw5 i h⟩
  ·exact aa h
theorem ZBE {C:Orc} {m:Nat→Bool} {hp:Hp} {base f:Nat} {ad:List AV} {ce:Zf} (h:Zdr C m hp base f ad=some ce) (hm:m 99=false) :
  ce.eff.dels=[]∧(∀ i∈ce.eff.frz,∃ a∈ad,i∈Zy a)∧(∀ i∈ce.gone,∃ o,lkp hp i=some o)∧(∀ k o,(k,o)∈ce.eff.sets→(∃ o,lkp hp k=some o)∧(k∈ce.gone∨∃ a∈ad,k∈J1 a)):=by
 unfold Zdr at h;obtain⟨as1,h1,h⟩:=Za h;unfold ZfG at h;split at h
 ·rename_i hc;obtain⟨⟨r,out⟩,h2,h⟩:=Za h;unfold ZaJ at h;split at h
  ·cases h
  split at h
  ·cases h
  ·cases h;obtain⟨_,_,ab⟩:=U4 hp (X6 hp) (as1.flatMap Zy) [] LA;have aa : ∀ id∈Xi hp (X6 hp) (as1.flatMap Zy) [],∃ o,lkp hp id=some o:=fun id af=>(ab id af).resolve_left (by simp);refine⟨rfl,fun i hi=>?_,fun i hi=>?_,fun k o hk=>?_⟩
   ·simp only at hi;split at hi
    ·simp at hi
    ·exact ZoL i hi
   ·rw[hm] at hi;exact aa i (LY.1 hi).1
   ·obtain⟨q,o0,h3,_,_⟩:=Zkx _ _ _ _ _ hk;have ae:=Kb h3;refine⟨aa k ae,?_⟩;have:=K4.1 hc.2.2 k ae;simp only[Lx,K5,Ko] at this;rcases this with h4 | h4
    ·exact .inl (by rw[hm];exact LY.2 ⟨ae,h4⟩)
    ·obtain⟨y,h5,h6⟩:=KC.1 h4;exact .inr (Zug 0 h1 y h5 k h6)
 ·cases h
theorem Zhw:∀ {l:Hp} {hp:Hp} {k:Nat} {o:Zm},(∃ o',(k,o')∈l)→lkp (Zi hp l) k=some o→(k,o)∈l
 | [],hp,k,o,h,_=>by obtain⟨o',h⟩:=h;simp at h
 | (a,x) :: r,hp,k,o,h,hl=>by
  simp only[Zi] at hl;by_cases h1:∃ o',(k,o')∈r
  ·exact KA _ (Zhw h1 hl)
  ·rw[ZD r _ k fun o' aa=>h1 ⟨o',aa⟩,Qn] at hl;obtain⟨o',h2⟩:=h;rcases Ke.1 h2 with h2 | h2
   ·cases h2;rw[Kg rfl] at hl;cases hl;exact Lm ..
   ·exact absurd ⟨o',h2⟩ h1
theorem Zb0:∀ {l:Hp} {hp hp' : Hp} {k:Nat},(∃ o',(k,o')∈l)→lkp (Zi hp l) k=lkp (Zi hp' l) k
 | [],hp,hp',k,h=>by obtain⟨o',h⟩:=h;simp at h
 | (a,x) :: r,hp,hp',k,h=>by
  simp only[Zi];by_cases h1:∃ o',(k,o')∈r
  ·exact Zb0 h1
  ·rw[ZD r _ k fun o' aa=>h1 ⟨o',aa⟩,ZD r _ k fun o' aa=>h1 ⟨o',aa⟩,Qn,Qn];obtain⟨o',h2⟩:=h;rcases Ke.1 h2 with h2 | h2
   ·cases h2;simp
   ·exact absurd ⟨o',h2⟩ h1
theorem J6:∀ (l:Hp) {hp hp' : Hp} {k:Nat},lkp hp k=lkp hp' k→lkp (Zi hp l) k=lkp (Zi hp' l) k
 | [],hp,hp',k,h=>h
 | (a,x) :: r,hp,hp',k,h=>by
  simp only[Zi];exact J6 r (by rw[Qn,Qn,h])
theorem ZAw {ce:Zf} {dX dY:Option Nat} {v:AV} {ax:Hp} {s:Sl×Hp} (hd:Zac dX dY=true) (aa:ce.eff.dels=[])
  (h1:∀ k o,(k,o)∈ax→(∀ o',(k,o')∉ce.eff.sets)∧(∀ o',(k,o')∉ce.eff.adds)∧k∉ce.eff.frz) (h2:∀ k o,(k,o)∈ax→XE ce.gone o=o) (hv:kill ce.gone v=v) :
  X0 (Zs (ce.on dY s.1 s.2).1 dX v,Zi (ce.on dY s.1 s.2).2 ax) (ce.on dY (Zs s.1 dX v) (Zi s.2 ax)):=by
 refine⟨fun t=>?_,fun k=>?_⟩
 ·show gs (Zs (Zs (Xn ce.gone s.1) dY ce.eff.val) dX v) t=gs (Zs (Xn ce.gone (Zs s.1 dX v)) dY ce.eff.val) t;simp only[QG,QW];by_cases hx:dX=some t
  ·have hy:¬dY=some t:=fun e=>by rw[hx,e] at hd;simp[Zac] at hd
   simp[hx,hy,hv]
  ·simp[hx]
 ·show lkp (Zi (ce.eff.on (V8 ce.gone s.2)) ax) k=lkp (ce.eff.on (V8 ce.gone (Zi s.2 ax))) k;unfold Eff.on;rw[aa];simp only[Qe];by_cases hk:∃ o,(k,o)∈ax
  ·obtain⟨o,ho⟩:=hk;obtain⟨g1,g2,g3⟩:=h1 k o ho;rw[ZD _ (Zi (Qq ce.eff.frz (V8 ce.gone (Zi s.2 ax))) ce.eff.sets) k g2,ZD _ (Qq ce.eff.frz (V8 ce.gone (Zi s.2 ax))) k g1];rw[Ql,Wh];rw[Zb0 (hp':=s.2) ⟨o,ho⟩];cases hl:lkp (Zi s.2 ax) k with
   | none=>rfl
   | some o' =>
    have:=h2 k o' (Zhw ⟨o,ho⟩ hl);simp[this,g3]
  ·have ab : ∀ o,(k,o)∉ax:=fun o ho=>hk ⟨o,ho⟩;rw[ZD ax _ k ab];refine J6 _ (J6 _ ?_);rw[Ql,Ql,Wh,Wh,ZD ax _ k ab]
structure Znr (ce:Zf):Prop where
 gone:ce.gone=[]
 sets:ce.eff.sets=[]
 dels:ce.eff.dels=[]
 frz:ce.eff.frz=[]
theorem Zw6 {ce:Zf} (h:Znr ce) (d:Option Nat) (s:Sl×Hp):ce.on d s.1 s.2=(Zs s.1 d ce.eff.val,Zi s.2 ce.eff.adds):=by
 unfold Zf.on Eff.on;rw[h.gone,h.sets,h.dels,h.frz];rfl
theorem Zy3 {C:Orc} {M:Zr} {nx i:Nat} {o:CO} {s s' : Sl×Hp} (h:ZO C M nx i false o s=some s') :
  (Z2 s.1 o.guard=some false∧s'=(Zs s.1 o.dst (.tup []),s.2)) ∨
  (Z2 s.1 o.guard=some true∧∃ ce,Znr ce∧vop C M s.1 s.2 (nx+64*i) o.op=some ce∧Q9 (nx+64*i) (nx+64*i+64) ce.eff.adds=true∧s'=(Zs s.1 o.dst ce.eff.val,Zi s.2 ce.eff.adds)):=by
 unfold ZO at h;obtain⟨b,hw,h⟩:=Za h;cases b with
 | true=>
  simp only[Km] at h;obtain⟨ce,h1,h2,rfl⟩:=XF h;unfold We at h1;simp only[Ka,Kn] at h1;unfold Zci at h1;obtain⟨c,h3,h1⟩:=Za h1;unfold ZfP at h1;split at h1
  ·rename_i e1 e2 e3 e4;cases h1;have hq:Znr ce:=⟨e1,e2,e3,e4⟩
   exact .inr ⟨hw,ce,hq,h3,h2,Zw6 hq _ s⟩
  ·cases h1
 | false=>
  simp only[Ka,Kn] at h;cases h;exact .inl ⟨hw,rfl⟩
theorem Zi7 {C:Orc} {M:Zr} {nx i:Nat} {o:CO} {s:Sl×Hp} {ce:Zf} (hw:Z2 s.1 o.guard=some true) (hq:Znr ce) (hv:vop C M s.1 s.2 (nx+64*i) o.op=some ce) (hk:Q9 (nx+64*i) (nx+64*i+64) ce.eff.adds=true) :
  ZO C M nx i false o s=some (Zs s.1 o.dst ce.eff.val,Zi s.2 ce.eff.adds):=by
 unfold ZO;rw[hw,Zh];simp only[Km];unfold YM We;simp only[Ka,Kn];rw[hv];simp only[Zci,Zh,hq.gone,hq.sets,hq.dels,hq.frz,ZfP];rw[Kg hk,Zw6 hq _ s]
theorem YL {C:Orc} {M:Zr} {nx i:Nat} {t:Bool} {o:CO} {s:Sl×Hp} (hw:Z2 s.1 o.guard=some false):ZO C M nx i t o s=some (Zs s.1 o.dst (.tup []),s.2):=by
 unfold ZO;rw[hw,Zh];rfl
theorem Zi8 {sl sl' : Sl} {g:List Nat} {gd:Option (Nat×Bool)} (h:∀ q,gd=some q→gs sl' q.1=kill g (gs sl q.1)):Z2 sl' gd=Z2 sl gd:=by
 cases gd with
 | none=>rfl
 | some q=>
  simp only[Z2,h q rfl];cases gs sl q.1 with
  | d x=>rfl
  | tup vs=>cases vs<;>rfl
  | ptr a b=>simp only[kill,ZU,Qk];split<;>rfl
  | prow a b c d=>simp only[kill,ZU,Qk];split<;>rfl
  | own a=>simp only[kill,ZU,Qk];split<;>rfl
  | ownv a b c=>simp only[kill,ZU,Qk];split<;>rfl
  | bnil a b=>simp only[kill,ZU,Qk];split<;>rfl
  | _=>rfl
end Go.Abs
