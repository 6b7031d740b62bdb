/- Own text. -/
import Derived.Test.YtdhgppkldoopaaaGreatAbsSound2
set_option linter.unusedVariables false
set_option linter.unusedSimpArgs false
namespace Go.Abs
open Go
theorem ZdB {sl sl' : Sl}:∀ {xs:List Opd},(∀ x∈xs,evO sl x=evO sl' x)→evL sl xs=evL sl' xs
 | [],_=>rfl
 | x :: xs,h=>by simp only[evL,h x (by simp),ZdB (xs:=xs) fun y hy=>h y (Kr _ hy)]
theorem Zrd {sl sl' : Sl}:∀ {xs:List (Nat×Nat×Opd)},(∀ x∈xs.map (fun q=>q.2.2),evO sl x=evO sl' x)→evP sl xs=evP sl' xs
 | [],_=>rfl
 | (a,b,x) :: xs,h=>by simp only[evP,h x (by simp),Zrd (xs:=xs) fun y hy=>h y (by simp only[Kp,Kf];exact .inr hy)]
theorem Zhj {sl sl' : Sl} {x:Option Opd} (h:∀ y∈ZqP x,evO sl y=evO sl' y):evM sl x=evM sl' x:=by
 cases x with
 | none=>rfl
 | some y=>simp only[evM,h y (by simp[ZqP])]
theorem QX (C:Orc) (M:Zm) {sl sl' : Sl} (hp:Hp) (base:Nat):∀ {c:COp},(∀ x∈ZE c,evO sl x=evO sl' x)→vop C M sl hp base c=vop C M sl' hp base c:=by
 intro c h;cases c<;>simp only[ZE] at h<;>simp only[vop]
 case move x=>rw[h x (by simp)]
 case assign s x=>rw[h x (by simp)]
 case pick c a b=>rw[h c (by simp),h a (by simp),h b (by simp)]
 case box x=>rw[h x (by simp)]
 case build zs ps=>rw[Zrd h]
 case buildSl s xs=>rw[ZdB h]
 case load g s a=>rw[h a (by simp)]
 case store slc s a x=>rw[h a (by simp),h x (by simp)]
 case nilCheck x=>rw[h x (by simp)]
 case bin op eq x y=>rw[h x (by simp),h y (by simp)]
 case un op x=>rw[h x (by simp)]
 case eqA neg n x y=>rw[h x (by simp),h y (by simp)]
 case convI k x=>rw[h x (by simp)]
 case convS x=>rw[h x (by simp)]
 case fn f cs=>rw[ZdB h]
 case make s b z l c=>rw[h l (by simp),h c (by simp)]
 case slice s x lo hi=>rw[h x (by simp),Zhj fun y hy=>h y (by simp[hy]),Zhj (x:=hi) fun y hy=>h y (by simp[hy])]
 case sliceS x lo hi=>rw[h x (by simp),Zhj fun y hy=>h y (by simp[hy]),Zhj (x:=hi) fun y hy=>h y (by simp[hy])]
 case slice0 x hi mx=>rw[h x (by simp),h hi (by simp),h mx (by simp)]
 case shift off x=>rw[h x (by simp)]
 case part g s off x=>rw[h x (by simp)]
 case iaS s x i=>rw[h x (by simp),h i (by simp)]
 case iaA len s x i=>rw[h x (by simp),h i (by simp)]
 case ixS x i=>rw[h x (by simp),h i (by simp)]
 case ixA g s len x i=>rw[h x (by simp),h i (by simp)]
 case nth i x=>rw[h x (by simp)]
 case len x=>rw[h x (by simp)]
 case lenS x=>rw[h x (by simp)]
 case append s b str flat x y=>rw[h x (by simp),h y (by simp)]
 case min x y=>rw[h x (by simp),h y (by simp)]
 case max x y=>rw[h x (by simp),h y (by simp)]
 case slice3 s x lo hi mx=>rw[h x (by simp),h lo (by simp),h hi (by simp),h mx (by simp)]
 case clear s z x=>rw[h x (by simp)]
 case buildT s n xs=>rw[ZdB h]
 case appT s b f x y=>rw[h x (by simp),h y (by simp)]
 case asgT s n x=>rw[h x (by simp)]
 case makeT s b n z l c=>rw[h l (by simp),h c (by simp)]
 case call f as=>rw[h f (by simp),ZdB (xs:=as) fun y hy=>h y (Kr _ hy)]
section
variable {U:Nat→Prop} {hp hp' : Hp}
structure Q1 (U:Nat→Prop) (hp hp' : Hp):Prop where
 same:∀ id,U id→lkp hp id=lkp hp' id
 closed:∀ id o,U id→lkp hp id=some o→∀ i∈Ji o,U i
def InU (U:Nat→Prop) (x:AV):Prop:=∀ id∈Zx x,U id
theorem ZtQ (h:Q1 U hp hp') {x:AV} (hx:InU U x) (g:Bool) (s:Nat):W2 hp g s x=W2 hp' g s x:=by
 cases x<;>simp only[W2]
 case ptr id off=>rw[h.same id (hx id (by simp[Zx,Zz,Zl]))]
 case prow id sz i off=>rw[h.same id (hx id (by simp[Zx,Zz,Zl]))]
theorem ZlJ (h:Q1 U hp hp') {x:AV} (hx:InU U x) (sz n:Nat):Qt hp sz n x=Qt hp' sz n x:=by
 cases x<;>simp only[Qt]
 case d x=>cases x<;>rfl
 case own id=>rw[h.same id (hx id (by simp[Zx,Zz,Zl]))]
 case ownv id off m=>rw[h.same id (hx id (by simp[Zx,Zz,Zl]))]
theorem Zss (h:Q1 U hp hp') {x:AV} (hx:InU U x) (s:Nat) (lo hi:Option AV):Vx hp s lo hi x=Vx hp' s lo hi x:=by
 cases x<;>simp only[Vx]
 case d x=>cases x<;>rfl
 case own id=>rw[h.same id (hx id (by simp[Zx,Zz,Zl]))]
 case ownv id off m=>rw[h.same id (hx id (by simp[Zx,Zz,Zl]))]
theorem Zjl (h:Q1 U hp hp') {x:AV} (hx:InU U x):Zc5 hp x=Zc5 hp' x:=by
 cases x<;>simp only[Zc5]
 case d x=>cases x<;>rfl
 case own id=>rw[h.same id (hx id (by simp[Zx,Zz,Zl]))]
theorem Zst (h:Q1 U hp hp') {x:AV} (hx:InU U x) (s:Nat) (z:D):ZeH hp s z x=ZeH hp' s z x:=by
 cases x<;>simp only[ZeH]
 case ownv id off m=>rw[h.same id (hx id (by simp[Zx,Zz,Zl]))]
theorem ZtR (h:Q1 U hp hp') {x:AV} (hx:InU U x) (flat:Bool):ZgN hp flat x=ZgN hp' flat x:=by
 cases x<;>simp only[ZgN]
 case d x=>cases x<;>rfl
 case own id=>rw[h.same id (hx id (by simp[Zx,Zz,Zl]))]
 case ownv id off m=>rw[h.same id (hx id (by simp[Zx,Zz,Zl]))]
theorem ZtS (h:Q1 U hp hp') {x:AV} (hx:InU U x) (sz b base:Nat) (aa:List Nat) (ys:List D) (ex:Bool):ZiO hp sz b base aa ys ex x=ZiO hp' sz b base aa ys ex x:=by
 cases x<;>simp only[ZiO]
 case own id=>rw[h.same id (hx id (by simp[Zx,Zz,Zl]))]
 case ownv id off m=>rw[h.same id (hx id (by simp[Zx,Zz,Zl]))]
theorem ZqG (h:Q1 U hp hp') {x:AV} (hx:InU U x):Zcv hp x=Zcv hp' x:=by
 cases x<;>simp only[Zcv]
 case own id=>rw[h.same id (hx id (by simp[Zx,Zz,Zl]))]
theorem ZqH (h:Q1 U hp hp') {x:AV} (hx:InU U x) (s b base id n:Nat) (ys:List D):Za3 hp s b base id n ys x=Za3 hp' s b base id n ys x:=by
 cases x<;>simp only[Za3]
 case own k=>rw[h.same k (hx k (by simp[Zx,Zz,Zl]))]
theorem ZiC (h:Q1 U hp hp') {x y:AV} (hx:InU U x) (hy:InU U y) (s b:Nat) (str flat:Bool) (base:Nat):Jq hp s b str flat base x y=Jq hp' s b str flat base x y:=by
 unfold Jq;rw[ZtR h hy];congr 1
 funext q
 rw[ZtS h hx]
theorem ZkB (h:Q1 U hp hp') {x:AV} (hx:InU U x):XG hp x=XG hp' x:=by
 cases x<;>simp only[XG]
 case own id=>rw[h.same id (hx id (by simp[Zx,Zz,Zl]))]
theorem Zsu (h:Q1 U hp hp') (ids:List Nat):Q1 U (meltIn hp ids) (meltIn hp' ids):=by
 refine⟨fun id aa=>by rw[Uj,Uj,h.same id aa],fun id o aa hl=>?_⟩;rw[Uj] at hl;cases hl0:lkp hp id with
 | none=>rw[hl0] at hl;cases hl
 | some o0=>
  rw[hl0] at hl;simp only[KV,Option.some.injEq] at hl;subst hl;have:=h.closed id o0 aa hl0;split
  ·cases o0 with
   | tree s n xs l=>cases l<;>exact this
   | _=>exact this
  ·exact this
theorem ZiD (h:Q1 U hp hp') {x y:AV} (hx:InU U x) (hy:InU U y) (s b:Nat) (str flat:Bool) (base:Nat) (ms:List Nat):Y6 hp s b str flat base x y ms=Y6 hp' s b str flat base x y ms:=by
 cases ms with
 | nil=>exact ZiC h hx hy s b str flat base
 | cons i r=>simp only[Y6];rw[ZiC (Zsu h (i :: r)) hx hy]
theorem ZoX (h:Q1 U hp hp') {x y:AV} (hx:InU U x) (hy:InU U y) (s b base:Nat):appT hp s b base x y=appT hp' s b base x y:=by
 unfold appT;rw[ZqG h hy];congr 2
 funext q
 rw[ZqH h hx]
theorem ZmO (h:Q1 U hp hp') {x:AV} (hx:∀ id∈Zl x,U id):ZaO hp x=ZaO hp' x:=by
 cases x<;>simp only[ZaO]
 case own id=>rw[h.same id (hx id (by simp[Zl]))]
theorem ZgA (h:Q1 U hp hp'):∀ {xs:List AV},(∀ id∈xs.flatMap Zl,U id)→VE hp xs=VE hp' xs
 | [],_=>rfl
 | x :: xs,hx=>by
  simp only[VE];rw[ZmO h fun id aa=>hx id (by simp only[KA,Ke];exact .inl aa),ZgA h (xs:=xs) fun id aa=>hx id (by simp only[KA,Ke];exact .inr aa)]
theorem ZtT (h:Q1 U hp hp') {n:Nat} {x:AV} (hx:∀ id∈Zl x,U id):ZgM hp n x=ZgM hp' n x:=by
 cases x<;>simp only[ZgM]
 case own id=>rw[h.same id (hx id (by simp[Zl]))]
theorem ZgB (h:Q1 U hp hp') {n:Nat}:∀ {xs:List AV},(∀ id∈xs.flatMap Zl,U id)→Wd hp n xs=Wd hp' n xs
 | [],_=>rfl
 | x :: xs,hx=>by
  simp only[Wd];rw[ZtT h fun id aa=>hx id (by simp only[KA,Ke];exact .inl aa),ZgB h (xs:=xs) fun id aa=>hx id (by simp only[KA,Ke];exact .inr aa)]
theorem ZiE (h:Q1 U hp hp') {n s:Nat}:∀ {xs:List AV},(∀ x∈xs,InU U x)→W9 hp n s xs=W9 hp' n s xs
 | [],_=>rfl
 | x :: xs,hx=>by
  cases x<;>simp only[W9]
  rename_i cs;rw[ZgB h (hx (.agg cs) (by simp)),ZiE h (xs:=xs) fun x hm=>hx x (Kr _ hm)]
theorem Zsv (h:Q1 U hp hp') {base s n:Nat} {xs:List AV} (hx:∀ x∈xs,InU U x):buildT hp base s n xs=buildT hp' base s n xs:=by
 unfold buildT;rw[ZiE h hx]
theorem Zsw (h:Q1 U hp hp') {x:AV} (hx:InU U x) (slc:List (Option Nat)) (s base:Nat) (vs:List AV) (hv:∀ id∈vs.flatMap Zl,U id):ZaH hp slc s base vs x=ZaH hp' slc s base vs x:=by
 cases x<;>simp only[ZaH]
 case ptr id off=>rw[h.same id (hx id (by simp[Zx,Zz,Zl]))]
 case prow id sz i off=>
  rw[h.same id (hx id (by simp[Zx,Zz,Zl]))];unfold ZbS;rw[ZgA h hv];have ht:∀ n,Wd hp n vs=Wd hp' n vs:=fun n=>ZgB h hv;simp only[ht]
theorem ZoY {x:AV} (hx:InU U x):∀ id∈x.cells.flatMap Zl,U id:=by
 intro id aa;refine hx id ?_;cases x<;>simp only[AV.cells] at aa<;>first
  | (simp[Zl] at aa;done)
  | (obtain⟨c,hc,ab⟩:=Kq.1 aa;obtain⟨y,_,rfl⟩:=Lk.1 hc;simp[Zl] at ab;done)
  | (simpa [Zx,Zz,Zl] using aa)
theorem Zvb (h:Q1 U hp hp') {x:AV} (hx:InU U x):give hp x=give hp' x:=by
 cases x with
 | agg cs=>simp only[give];rw[ZgA h hx]
 | own id=>exact ZmO h (x:=.own id) hx
 | _=>rfl
theorem ZiF (h:Q1 U hp hp'):∀ {xs:List AV},(∀ x∈xs,InU U x)→Wz hp xs=Wz hp' xs
 | [],_=>rfl
 | x :: xs,hx=>by
  simp only[Wz];rw[Zvb h (hx x (by simp)),ZiF h (xs:=xs) fun y hy=>hx y (Kr _ hy)]
theorem ZeC (h:Q1 U hp hp') {x:AV} (hx:∀ id∈Zl x,U id):ZhH hp x=ZhH hp' x:=by
 cases x<;>simp only[ZhH]
 case own id=>rw[h.same id (hx id (by simp[Zl]))]
 case ownv id off n=>rw[h.same id (hx id (by simp[Zl]))]
theorem ZoZ (h:Q1 U hp hp'):∀ {xs:List AV},(∀ id∈xs.flatMap Zl,U id)→Qr (ZhH hp) xs=Qr (ZhH hp') xs
 | [],_=>rfl
 | x :: xs,hx=>by
  simp only[Qr];rw[ZeC h fun id aa=>hx id (by simp only[KA,Ke];exact .inl aa),ZoZ h (xs:=xs) fun id aa=>hx id (by simp only[KA,Ke];exact .inr aa)]
theorem Zre (h:Q1 U hp hp') {x:AV} (hx:InU U x):toD hp x=toD hp' x:=by
 cases x with
 | agg cs=>simp only[toD];rw[ZoZ h hx]
 | own id=>exact ZeC h (x:=.own id) hx
 | ownv id off n=>exact ZeC h (x:=.ownv id off n) hx
 | _=>rfl
theorem Zvc (h:Q1 U hp hp') (m:Bool) {x:AV} (hx:InU U x):Zcc hp m x=Zcc hp' m x:=by
 cases x with
 | own id=>
  simp only[Zcc];cases m
  ·simp only[ZeI];rw[ZeC h (x:=.own id) hx]
  ·rfl
 | agg cs=>
  simp only[Zcc];cases m
  ·simp only[ZeJ];rw[Zre h hx]
  ·rfl
 | ownv id off n=>simp only[Zcc];rw[Zre h hx]
 | _=>rfl
theorem Zo0 (h:Q1 U hp hp') (m:Nat→Bool):∀ {xs:List AV} (i:Nat),(∀ x∈xs,InU U x)→args hp m i xs=args hp' m i xs
 | [],i,_=>rfl
 | x :: xs,i,hx=>by
  simp only[args];rw[Zvc h (m i) (hx x (by simp)),Zo0 h m (xs:=xs) (i+1) fun y hy=>hx y (Kr _ hy)]
theorem ZzZ {m:Bool} {x y:AV} (hx:InU U x) (h:Zcc hp m x=some y):InU U y:=by
 unfold Zcc at h;split at h
 ·cases h;exact hx
 ·cases h;exact hx
 ·cases h;exact hx
 ·cases h;exact hx
 ·cases h;exact hx
 ·rename_i id;cases m
  ·simp only[ZeI,asD] at h;obtain⟨d,_,h⟩:=Za h;cases h;exact fun id aa=>by simp[Zx,Zz,Zl] at aa
  ·simp only[ZeI] at h;cases h;exact hx
 ·cases m
  ·simp only[ZgO] at h;cases h;exact fun id aa=>by simp[Zx,Zz,Zl] at aa
  ·simp only[ZgO] at h;cases h;exact hx
 ·cases h;exact hx
 ·cases m
  ·simp only[ZeJ,asD] at h;obtain⟨d,_,h⟩:=Za h;cases h;exact fun id aa=>by simp[Zx,Zz,Zl] at aa
  ·simp only[ZeJ] at h;split at h
   ·cases h
   ·cases h;exact hx
 ·obtain⟨d,_,h⟩:=Za h;cases h;exact fun id aa=>by simp[Zx,Zz,Zl] at aa
theorem Zwg {m:Nat→Bool}:∀ {xs ys:List AV} (i:Nat),(∀ x∈xs,InU U x)→args hp m i xs=some ys→∀ y∈ys,InU U y
 | [],ys,i,_,h=>by simp only[args] at h;cases h;simp
 | x :: xs,ys,i,hx,h=>by
  simp only[args] at h;obtain⟨y,h1,h⟩:=Za h;obtain⟨aa,h2,h⟩:=Za h;cases h;intro z hz;rcases Kf.1 hz with rfl | hz
  ·exact ZzZ (hx x (by simp)) h1
  ·exact Zwg (i+1) (fun y hy=>hx y (by simp[hy])) h2 z hz
theorem Zcq (h:Q1 U hp hp'):∀ (n:Nat) (todo aa:List Nat),(∀ i∈todo,U i)→QQ hp n todo aa=QQ hp' n todo aa
 | 0,todo,aa,_=>by simp only[QQ]
 | n+1,[],aa,_=>by simp only[QQ]
 | n+1,id :: todo,aa,ht=>by
  simp only[QQ];rw[Zcq h n todo aa fun i hi=>ht i (by simp[hi])];rw[← h.same id (ht id (by simp))];cases hl:lkp hp id with
  | none=>simp only[Jr];rw[Zcq h n todo aa fun i hi=>ht i (by simp[hi])]
  | some o=>
   simp only[Jr];rw[Zcq h n (todo++Ji o) (aa++[id]) fun i hi=>by
    rcases Ke.1 hi with hi | hi
    ·exact ht i (by simp[hi])
    ·exact h.closed id o (ht id (by simp)) hl i hi]
theorem ZkC (h:Q1 U hp hp'):∀ (n:Nat) (todo aa:List Nat),(∀ i∈todo,U i)→(∀ i∈aa,U i)→∀ i∈QQ hp n todo aa,U i
 | 0,todo,aa,_,ha=>by simp only[QQ];exact ha
 | n+1,[],aa,_,ha=>by simp only[QQ];exact ha
 | n+1,id :: todo,aa,ht,ha=>by
  simp only[QQ];split
  ·exact ZkC h n todo aa (fun i hi=>ht i (by simp[hi])) ha
  ·cases hl:lkp hp id with
   | none=>simp only[Jr];exact ZkC h n todo aa (fun i hi=>ht i (by simp[hi])) ha
   | some o=>
    simp only[Jr];refine ZkC h n (todo++Ji o) (aa++[id]) (fun i hi=>?_) fun i hi=>?_
    ·rcases Ke.1 hi with hi | hi
     ·exact ht i (by simp[hi])
     ·exact h.closed id o (ht id (by simp)) hl i hi
    ·rcases Ke.1 hi with hi | hi
     ·exact ha i hi
     ·simp at hi;subst hi;exact ht i (by simp)
theorem Zo1 (h:Q1 U hp hp'):∀ {ids:List Nat},(∀ i∈ids,U i)→Zc8 hp ids=Zc8 hp' ids
 | [],_=>rfl
 | i :: ids,hi=>by simp only[Zc8,h.same i (hi i (by simp)),Zo1 h (ids:=ids) fun j hj=>hi j (Kr _ hj)]
theorem Zo2 (h:Q1 U hp hp') {base:Nat} {ids aa:List Nat} (hi:∀ i∈ids,U i) (hl:∀ i∈aa,U i) (keep:Bool) (r:AV) (out:List Zn):Zaz keep hp base ids aa r out=Zaz keep hp' base ids aa r out:=by
 unfold Zaz;have:ZlS hp ids out keep=ZlS hp' ids out keep:=by
  cases keep
  ·exact List.filter_congr fun i hm=>by rw[h.same i (hi i hm)]
  ·rfl
 have h2:∀ {l:List Nat},(∀ i∈l,U i)→(l.any fun i=>ZbY (lkp hp i))=l.any fun i=>ZbY (lkp hp' i):=by
  intro l
  induction l with
  | nil=>intro _;rfl
  | cons i l ih=>intro hl;simp only[List.any_cons];rw[h.same i (hl i (by simp)),ih fun k hk=>hl k (by simp[hk])]
 rw[this,h2 hl]
theorem ZyE (x:AV):∀ i∈Zcn x,i∈Zl x:=by
 intro i hi;cases x<;>simp only[Zcn,Zl] at hi ⊢ <;> first | exact hi | (simp at hi)
theorem ZwX (x:AV):∀ i∈Zey x,i∈Zx x:=by
 intro i hi;cases x with
 | agg cs=>
  obtain⟨c,hc,hi⟩:=Kq.1 hi;exact Kq.2 ⟨c,hc,ZyE c i hi⟩
 | own id=>exact hi
 | ownv id a b=>exact hi
 | _=>simp[Zey,Zcn] at hi
theorem Zrf:∀ {xs ys:List AV},(∀ x∈xs,InU U x)→∀ i∈Yw xs ys,U i
 | [],ys,_,i,hi=>by cases ys<;>simp[Yw] at hi
 | x :: xs,[],_,i,hi=>by simp[Yw] at hi
 | x :: xs,y :: ys,hx,i,hi=>by
  have ih:=Zrf (ys:=ys) fun z hz=>hx z (Kr _ hz);cases y<;>simp only[Yw] at hi<;>first | exact ih i hi | skip
  rcases Ke.1 hi with hi | hi
  ·exact hx x (by simp) i (ZwX x i hi)
  ·exact ih i hi
theorem ZiG (h:Q1 U hp hp') (rs:List Nat):∀ {ids:List Nat},(∀ i∈ids,U i)→Za2 hp rs ids=Za2 hp' rs ids
 | [],_=>rfl
 | i :: ids,hi=>by
  have ih:=ZiG h rs (ids:=ids) fun k hk=>hi k (by simp[hk]);simp only[Za2,Ly] at ih ⊢;rw[ih,h.1 i (hi i (by simp))]
theorem ZtU (h:Q1 U hp hp') (C:Orc) (m:Nat→Bool) (base f:Nat) {ab:List AV} (hx:∀ x∈ab,InU U x):Zcu C m hp base f ab=Zcu C m hp' base f ab:=by
 unfold Zcu;rw[← Zo0 h m 0 hx];cases ha:args hp m 0 ab with
 | none=>rfl
 | some as=>
  simp only[bnd];have ad:=Zwg 0 hx ha;have ht:∀ i∈as.flatMap Zx,U i:=fun i hi=>by
   obtain⟨y,hy,hi⟩:=Kq.1 hi;exact ad y hy i hi
  have hf:XF hp=XF hp':=rfl;rw[hf,← Zcq h (XF hp') (as.flatMap Zx) [] ht];have aa:=ZkC h (XF hp') (as.flatMap Zx) [] ht (by simp);unfold ZeK;rw[Zo1 h aa,ZiG h _ aa];congr 1
  congr 1
  funext q
  exact Zo2 h aa (Zrf hx) (m 99) q.1 q.2
theorem clo_in {f:Nat} {aa:List AV} (h:InU U (.clo f aa)):∀ x∈aa,x.atom=true→InU U x:=by
 intro x hx ha id ab;refine h id (Kq.2 ⟨x,hx,?_⟩);cases x<;>first | exact ab | (simp[AV.atom] at ha)
end
end Go.Abs
