/- Own text. -/
import Derived.Test.YtbpekaejmjlmfaaGreatAbsSound2
import Derived.Test.YtbpekaejmjlmfaaGreatAbsSound3
set_option linter.unusedVariables false
set_option linter.unusedSimpArgs false
namespace Go.Abs
open Go
theorem Zfk {sl sl' : Sl}:∀ {xs:List Opd},(∀ x∈xs,evO sl x=evO sl' x)→evL sl xs=evL sl' xs
 | [],_=>rfl
 | x :: xs,h=>by simp only[evL,h x (by simp),Zfk (xs:=xs) fun y hy=>h y (Ky _ hy)]
theorem Zte {sl sl' : Sl}:∀ {xs:List (Nat×Nat×Opd)},(∀ x∈xs.map (fun q=>q.2.2),evO sl x=evO sl' x)→evP sl xs=evP sl' xs
 | [],_=>rfl
 | (a,b,x) :: xs,h=>by simp only[evP,h x (by simp),Zte (xs:=xs) fun y hy=>h y (by simp only[Ko,Kg];exact .inr hy)]
theorem Zis {sl sl' : Sl} {x:Option Opd} (h:∀ y∈Zq2 x,evO sl y=evO sl' y):evM sl x=evM sl' x:=by
 cases x with
 | none=>rfl
 | some y=>simp only[evM,h y (by simp[Zq2])]
theorem Xm (C:Orc) (M:Zp) {sl sl' : Sl} (hp:Hp) (base:Nat):∀ {c:COp},(∀ x∈ZH c,evO sl x=evO sl' x)→vop C M sl hp base c=vop C M sl' hp base c:=by
 intro c h;cases c<;>simp only[ZH] at h<;>simp only[vop]
 case move x=>rw[h x (by simp)]
 case assign s x=>rw[h x (by simp)]
 case pick c a b=>rw[h c (by simp),h a (by simp),h b (by simp)]
 case box x=>rw[h x (by simp)]
 case build zs ps=>rw[Zte h]
 case buildSl s xs=>rw[Zfk h]
 case load g s a=>rw[h a (by simp)]
 case store slc s a x=>rw[h a (by simp),h x (by simp)]
 case nilCheck x=>rw[h x (by simp)]
 case bin op eq x y=>rw[h x (by simp),h y (by simp)]
 case un op x=>rw[h x (by simp)]
 case eqA neg n x y=>rw[h x (by simp),h y (by simp)]
 case convI k x=>rw[h x (by simp)]
 case convS x=>rw[h x (by simp)]
 case fn f cs=>rw[Zfk h]
 case make s b z l c=>rw[h l (by simp),h c (by simp)]
 case slice s x lo hi=>rw[h x (by simp),Zis fun y hy=>h y (by simp[hy]),Zis (x:=hi) fun y hy=>h y (by simp[hy])]
 case sliceS x lo hi=>rw[h x (by simp),Zis fun y hy=>h y (by simp[hy]),Zis (x:=hi) fun y hy=>h y (by simp[hy])]
 case slice0 x hi mx=>rw[h x (by simp),h hi (by simp),h mx (by simp)]
 case shift off x=>rw[h x (by simp)]
 case part g s off x=>rw[h x (by simp)]
 case iaS s x i=>rw[h x (by simp),h i (by simp)]
 case iaA len s x i=>rw[h x (by simp),h i (by simp)]
 case ixS x i=>rw[h x (by simp),h i (by simp)]
 case ixA g s len x i=>rw[h x (by simp),h i (by simp)]
 case nth i x=>rw[h x (by simp)]
 case len x=>rw[h x (by simp)]
 case lenS x=>rw[h x (by simp)]
 case append s b str flat x y=>rw[h x (by simp),h y (by simp)]
 case min x y=>rw[h x (by simp),h y (by simp)]
 case max x y=>rw[h x (by simp),h y (by simp)]
 case slice3 s x lo hi mx=>rw[h x (by simp),h lo (by simp),h hi (by simp),h mx (by simp)]
 case clear s z x=>rw[h x (by simp)]
 case buildT s n xs=>rw[Zfk h]
 case appT s b f x y=>rw[h x (by simp),h y (by simp)]
 case asgT s n x=>rw[h x (by simp)]
 case makeT s b n z l c=>rw[h l (by simp),h c (by simp)]
 case call f as=>rw[h f (by simp),Zfk (xs:=as) fun y hy=>h y (Ky _ hy)]
section
variable {U:Nat→Prop} {hp hp' : Hp}
structure Xo (U:Nat→Prop) (hp hp' : Hp):Prop where
 same:∀ id,U id→lkp hp id=lkp hp' id
 closed:∀ id o,U id→lkp hp id=some o→∀ i∈ZaL o,U i
def InU (U:Nat→Prop) (x:AV):Prop:=∀ id∈Zy x,U id
theorem Zwj (h:Xo U hp hp') {x:AV} (hx:InU U x) (g:Bool) (s:Nat):Jr hp g s x=Jr hp' g s x:=by
 cases x<;>simp only[Jr]
 case ptr id off=>rw[h.same id (hx id (by simp[Zy,ZA,Zo]))]
 case prow id sz i off=>rw[h.same id (hx id (by simp[Zy,ZA,Zo]))]
theorem Zl4 (h:Xo U hp hp') {x:AV} (hx:InU U x) (sz n:Nat):QJ hp sz n x=QJ hp' sz n x:=by
 cases x<;>simp only[QJ]
 case d x=>cases x<;>rfl
 case own id=>rw[h.same id (hx id (by simp[Zy,ZA,Zo]))]
 case ownv id off m=>rw[h.same id (hx id (by simp[Zy,ZA,Zo]))]
theorem ZuI (h:Xo U hp hp') {x:AV} (hx:InU U x) (s:Nat) (lo hi:Option AV):WC hp s lo hi x=WC hp' s lo hi x:=by
 cases x<;>simp only[WC]
 case d x=>cases x<;>rfl
 case own id=>rw[h.same id (hx id (by simp[Zy,ZA,Zo]))]
 case ownv id off m=>rw[h.same id (hx id (by simp[Zy,ZA,Zo]))]
theorem ZjM (h:Xo U hp hp') {x:AV} (hx:InU U x):ZeT hp x=ZeT hp' x:=by
 cases x<;>simp only[ZeT]
 case d x=>cases x<;>rfl
 case own id=>rw[h.same id (hx id (by simp[Zy,ZA,Zo]))]
theorem ZuJ (h:Xo U hp hp') {x:AV} (hx:InU U x) (s:Nat) (z:D):Zgn hp s z x=Zgn hp' s z x:=by
 cases x<;>simp only[Zgn]
 case ownv id off m=>rw[h.same id (hx id (by simp[Zy,ZA,Zo]))]
theorem Zwk (h:Xo U hp hp') {x:AV} (hx:InU U x) (flat:Bool):ZhO hp flat x=ZhO hp' flat x:=by
 cases x<;>simp only[ZhO]
 case d x=>cases x<;>rfl
 case own id=>rw[h.same id (hx id (by simp[Zy,ZA,Zo]))]
 case ownv id off m=>rw[h.same id (hx id (by simp[Zy,ZA,Zo]))]
theorem Zwl (h:Xo U hp hp') {x:AV} (hx:InU U x) (sz b base:Nat) (aa:List Nat) (ys:List D) (ex:Bool):Zjl hp sz b base aa ys ex x=Zjl hp' sz b base aa ys ex x:=by
 cases x<;>simp only[Zjl]
 case own id=>rw[h.same id (hx id (by simp[Zy,ZA,Zo]))]
 case ownv id off m=>rw[h.same id (hx id (by simp[Zy,ZA,Zo]))]
theorem Zsw (h:Xo U hp hp') {x:AV} (hx:InU U x):Zei hp x=Zei hp' x:=by
 cases x<;>simp only[Zei]
 case own id=>rw[h.same id (hx id (by simp[Zy,ZA,Zo]))]
theorem Zsx (h:Xo U hp hp') {x:AV} (hx:InU U x) (s b base id n:Nat) (ys:List D):ZcB hp s b base id n ys x=ZcB hp' s b base id n ys x:=by
 cases x<;>simp only[ZcB]
 case own k=>rw[h.same k (hx k (by simp[Zy,ZA,Zo]))]
theorem Zja (h:Xo U hp hp') {x y:AV} (hx:InU U x) (hy:InU U y) (s b:Nat) (str flat:Bool) (base:Nat):ZaY hp s b str flat base x y=ZaY hp' s b str flat base x y:=by
 unfold ZaY;rw[Zwk h hy];congr 1
 funext q
 rw[Zwl h hx]
theorem ZkI (h:Xo U hp hp') {x:AV} (hx:InU U x):Ya hp x=Ya hp' x:=by
 cases x<;>simp only[Ya]
 case own id=>rw[h.same id (hx id (by simp[Zy,ZA,Zo]))]
theorem ZuK (h:Xo U hp hp') (ids:List Nat):Xo U (meltIn hp ids) (meltIn hp' ids):=by
 refine⟨fun id aa=>by rw[JR,JR,h.same id aa],fun id o aa hl=>?_⟩;rw[JR] at hl;cases hl0:lkp hp id with
 | none=>rw[hl0] at hl;cases hl
 | some o0=>
  rw[hl0] at hl;simp only[Ld,Option.some.injEq] at hl;subst hl;have:=h.closed id o0 aa hl0;split
  ·cases o0 with
   | tree s n xs l=>cases l<;>exact this
   | _=>exact this
  ·exact this
theorem Zjb (h:Xo U hp hp') {x y:AV} (hx:InU U x) (hy:InU U y) (s b:Nat) (str flat:Bool) (base:Nat) (ms:List Nat):V3 hp s b str flat base x y ms=V3 hp' s b str flat base x y ms:=by
 cases ms with
 | nil=>exact Zja h hx hy s b str flat base
 | cons i r=>simp only[V3];rw[Zja (ZuK h (i :: r)) hx hy]
theorem Zqe (h:Xo U hp hp') {x y:AV} (hx:InU U x) (hy:InU U y) (s b base:Nat):appT hp s b base x y=appT hp' s b base x y:=by
 unfold appT;rw[Zsw h hy];congr 2
 funext q
 rw[Zsx h hx]
theorem ZmO (h:Xo U hp hp') {x:AV} (hx:∀ id∈Zo x,U id):Zcl hp x=Zcl hp' x:=by
 cases x<;>simp only[Zcl]
 case own id=>rw[h.same id (hx id (by simp[Zo]))]
theorem ZhC (h:Xo U hp hp'):∀ {xs:List AV},(∀ id∈xs.flatMap Zo,U id)→WG hp xs=WG hp' xs
 | [],_=>rfl
 | x :: xs,hx=>by
  simp only[WG];rw[ZmO h fun id aa=>hx id (by simp only[KO,Kf];exact .inl aa),ZhC h (xs:=xs) fun id aa=>hx id (by simp only[KO,Kf];exact .inr aa)]
theorem Zwm (h:Xo U hp hp') {n:Nat} {x:AV} (hx:∀ id∈Zo x,U id):ZhN hp n x=ZhN hp' n x:=by
 cases x<;>simp only[ZhN]
 case own id=>rw[h.same id (hx id (by simp[Zo]))]
theorem ZhD (h:Xo U hp hp') {n:Nat}:∀ {xs:List AV},(∀ id∈xs.flatMap Zo,U id)→Ui hp n xs=Ui hp' n xs
 | [],_=>rfl
 | x :: xs,hx=>by
  simp only[Ui];rw[Zwm h fun id aa=>hx id (by simp only[KO,Kf];exact .inl aa),ZhD h (xs:=xs) fun id aa=>hx id (by simp only[KO,Kf];exact .inr aa)]
theorem Zjc (h:Xo U hp hp') {n s:Nat}:∀ {xs:List AV},(∀ x∈xs,InU U x)→JE hp n s xs=JE hp' n s xs
 | [],_=>rfl
 | x :: xs,hx=>by
  cases x<;>simp only[JE]
  rename_i cs;rw[ZhD h (hx (.agg cs) (by simp)),Zjc h (xs:=xs) fun x hm=>hx x (Ky _ hm)]
theorem ZuL (h:Xo U hp hp') {base s n:Nat} {xs:List AV} (hx:∀ x∈xs,InU U x):buildT hp base s n xs=buildT hp' base s n xs:=by
 unfold buildT;rw[Zjc h hx]
theorem ZuM (h:Xo U hp hp') {x:AV} (hx:InU U x) (slc:List (Option Nat)) (s base:Nat) (vs:List AV) (hv:∀ id∈vs.flatMap Zo,U id):Zcf hp slc s base vs x=Zcf hp' slc s base vs x:=by
 cases x<;>simp only[Zcf]
 case ptr id off=>rw[h.same id (hx id (by simp[Zy,ZA,Zo]))]
 case prow id sz i off=>
  rw[h.same id (hx id (by simp[Zy,ZA,Zo]))];unfold ZdC;rw[ZhC h hv];have ht:∀ n,Ui hp n vs=Ui hp' n vs:=fun n=>ZhD h hv;simp only[ht]
theorem Zqf {x:AV} (hx:InU U x):∀ id∈x.cells.flatMap Zo,U id:=by
 intro id aa;refine hx id ?_;cases x<;>simp only[AV.cells] at aa<;>first
  | (simp[Zo] at aa;done)
  | (obtain⟨c,hc,ab⟩:=Kx.1 aa;obtain⟨y,_,rfl⟩:=KX.1 hc;simp[Zo] at ab;done)
  | (simpa [Zy,ZA,Zo] using aa)
theorem ZxX (h:Xo U hp hp') {x:AV} (hx:InU U x):give hp x=give hp' x:=by
 cases x with
 | agg cs=>simp only[give];rw[ZhC h hx]
 | own id=>exact ZmO h (x:=.own id) hx
 | _=>rfl
theorem Zjd (h:Xo U hp hp'):∀ {xs:List AV},(∀ x∈xs,InU U x)→UN hp xs=UN hp' xs
 | [],_=>rfl
 | x :: xs,hx=>by
  simp only[UN];rw[ZxX h (hx x (by simp)),Zjd h (xs:=xs) fun y hy=>hx y (Ky _ hy)]
theorem Zgg (h:Xo U hp hp') {x:AV} (hx:∀ id∈Zo x,U id):ZiQ hp x=ZiQ hp' x:=by
 cases x<;>simp only[ZiQ]
 case own id=>rw[h.same id (hx id (by simp[Zo]))]
 case ownv id off n=>rw[h.same id (hx id (by simp[Zo]))]
theorem Zqg (h:Xo U hp hp'):∀ {xs:List AV},(∀ id∈xs.flatMap Zo,U id)→QH (ZiQ hp) xs=QH (ZiQ hp') xs
 | [],_=>rfl
 | x :: xs,hx=>by
  simp only[QH];rw[Zgg h fun id aa=>hx id (by simp only[KO,Kf];exact .inl aa),Zqg h (xs:=xs) fun id aa=>hx id (by simp only[KO,Kf];exact .inr aa)]
theorem Ztf (h:Xo U hp hp') {x:AV} (hx:InU U x):toD hp x=toD hp' x:=by
 cases x with
 | agg cs=>simp only[toD];rw[Zqg h hx]
 | own id=>exact Zgg h (x:=.own id) hx
 | ownv id off n=>exact Zgg h (x:=.ownv id off n) hx
 | _=>rfl
theorem ZxY (h:Xo U hp hp') (m:Bool) {x:AV} (hx:InU U x):ZdX hp m x=ZdX hp' m x:=by
 cases x with
 | own id=>
  simp only[ZdX];cases m
  ·simp only[Zgo];rw[Zgg h (x:=.own id) hx]
  ·rfl
 | agg cs=>
  simp only[ZdX];cases m
  ·simp only[Zgp];rw[Ztf h hx]
  ·rfl
 | ownv id off n=>simp only[ZdX];rw[Ztf h hx]
 | _=>rfl
theorem Zqh (h:Xo U hp hp') (m:Nat→Bool):∀ {xs:List AV} (i:Nat),(∀ x∈xs,InU U x)→args hp m i xs=args hp' m i xs
 | [],i,_=>rfl
 | x :: xs,i,hx=>by
  simp only[args];rw[ZxY h (m i) (hx x (by simp)),Zqh h m (xs:=xs) (i+1) fun y hy=>hx y (Ky _ hy)]
theorem ZCS {m:Bool} {x y:AV} (hx:InU U x) (h:ZdX hp m x=some y):InU U y:=by
 unfold ZdX at h;split at h
 ·cases h;exact hx
 ·cases h;exact hx
 ·cases h;exact hx
 ·cases h;exact hx
 ·cases h;exact hx
 ·rename_i id;cases m
  ·simp only[Zgo,asD] at h;obtain⟨d,_,h⟩:=Za h;cases h;exact fun id aa=>by simp[Zy,ZA,Zo] at aa
  ·simp only[Zgo] at h;cases h;exact hx
 ·cases m
  ·simp only[ZhP] at h;cases h;exact fun id aa=>by simp[Zy,ZA,Zo] at aa
  ·simp only[ZhP] at h;cases h;exact hx
 ·cases h;exact hx
 ·cases m
  ·simp only[Zgp,asD] at h;obtain⟨d,_,h⟩:=Za h;cases h;exact fun id aa=>by simp[Zy,ZA,Zo] at aa
  ·simp only[Zgp] at h;split at h
   ·cases h
   ·cases h;exact hx
 ·obtain⟨d,_,h⟩:=Za h;cases h;exact fun id aa=>by simp[Zy,ZA,Zo] at aa
theorem Zza {m:Nat→Bool}:∀ {xs ys:List AV} (i:Nat),(∀ x∈xs,InU U x)→args hp m i xs=some ys→∀ y∈ys,InU U y
 | [],ys,i,_,h=>by simp only[args] at h;cases h;simp
 | x :: xs,ys,i,hx,h=>by
  simp only[args] at h;obtain⟨y,h1,h⟩:=Za h;obtain⟨aa,h2,h⟩:=Za h;cases h;intro z hz;rcases Kg.1 hz with rfl | hz
  ·exact ZCS (hx x (by simp)) h1
  ·exact Zza (i+1) (fun y hy=>hx y (by simp[hy])) h2 z hz
theorem Zed (h:Xo U hp hp'):∀ (n:Nat) (todo aa:List Nat),(∀ i∈todo,U i)→Xb hp n todo aa=Xb hp' n todo aa
 | 0,todo,aa,_=>by simp only[Xb]
 | n+1,[],aa,_=>by simp only[Xb]
 | n+1,id :: todo,aa,ht=>by
  simp only[Xb];rw[Zed h n todo aa fun i hi=>ht i (by simp[hi])];rw[← h.same id (ht id (by simp))];cases hl:lkp hp id with
  | none=>simp only[ZaZ];rw[Zed h n todo aa fun i hi=>ht i (by simp[hi])]
  | some o=>
   simp only[ZaZ];rw[Zed h n (todo++ZaL o) (aa++[id]) fun i hi=>by
    rcases Kf.1 hi with hi | hi
    ·exact ht i (by simp[hi])
    ·exact h.closed id o (ht id (by simp)) hl i hi]
theorem ZkJ (h:Xo U hp hp'):∀ (n:Nat) (todo aa:List Nat),(∀ i∈todo,U i)→(∀ i∈aa,U i)→∀ i∈Xb hp n todo aa,U i
 | 0,todo,aa,_,ha=>by simp only[Xb];exact ha
 | n+1,[],aa,_,ha=>by simp only[Xb];exact ha
 | n+1,id :: todo,aa,ht,ha=>by
  simp only[Xb];split
  ·exact ZkJ h n todo aa (fun i hi=>ht i (by simp[hi])) ha
  ·cases hl:lkp hp id with
   | none=>simp only[ZaZ];exact ZkJ h n todo aa (fun i hi=>ht i (by simp[hi])) ha
   | some o=>
    simp only[ZaZ];refine ZkJ h n (todo++ZaL o) (aa++[id]) (fun i hi=>?_) fun i hi=>?_
    ·rcases Kf.1 hi with hi | hi
     ·exact ht i (by simp[hi])
     ·exact h.closed id o (ht id (by simp)) hl i hi
    ·rcases Kf.1 hi with hi | hi
     ·exact ha i hi
     ·simp at hi;subst hi;exact ht i (by simp)
theorem Zqi (h:Xo U hp hp'):∀ {ids:List Nat},(∀ i∈ids,U i)→ZeV hp ids=ZeV hp' ids
 | [],_=>rfl
 | i :: ids,hi=>by simp only[ZeV,h.same i (hi i (by simp)),Zqi h (ids:=ids) fun j hj=>hi j (Ky _ hj)]
theorem Zqj (h:Xo U hp hp') {base:Nat} {ids aa:List Nat} (hi:∀ i∈ids,U i) (hl:∀ i∈aa,U i) (keep:Bool) (r:AV) (out:List Zn):Zb4 keep hp base ids aa r out=Zb4 keep hp' base ids aa r out:=by
 unfold Zb4;have:Zme hp ids out keep=Zme hp' ids out keep:=by
  cases keep
  ·exact List.filter_congr fun i hm=>by rw[h.same i (hi i hm)]
  ·rfl
 have h2:∀ {l:List Nat},(∀ i∈l,U i)→(l.any fun i=>ZdI (lkp hp i))=l.any fun i=>ZdI (lkp hp' i):=by
  intro l
  induction l with
  | nil=>intro _;rfl
  | cons i l ih=>intro hl;simp only[List.any_cons];rw[h.same i (hl i (by simp)),ih fun k hk=>hl k (by simp[hk])]
 rw[this,h2 hl]
theorem ZBt (x:AV):∀ i∈Zd9 x,i∈Zo x:=by
 intro i hi;cases x<;>simp only[Zd9,Zo] at hi ⊢ <;> first | exact hi | (simp at hi)
theorem Zz3 (x:AV):∀ i∈Zgc x,i∈Zy x:=by
 intro i hi;cases x with
 | agg cs=>
  obtain⟨c,hc,hi⟩:=Kx.1 hi;exact Kx.2 ⟨c,hc,ZBt c i hi⟩
 | own id=>exact hi
 | ownv id a b=>exact hi
 | _=>simp[Zgc,Zd9] at hi
theorem Ztg:∀ {xs ys:List AV},(∀ x∈xs,InU U x)→∀ i∈Ve xs ys,U i
 | [],ys,_,i,hi=>by cases ys<;>simp[Ve] at hi
 | x :: xs,[],_,i,hi=>by simp[Ve] at hi
 | x :: xs,y :: ys,hx,i,hi=>by
  have ih:=Ztg (ys:=ys) fun z hz=>hx z (Ky _ hz);cases y<;>simp only[Ve] at hi<;>first | exact ih i hi | skip
  rcases Kf.1 hi with hi | hi
  ·exact hx x (by simp) i (Zz3 x i hi)
  ·exact ih i hi
theorem Zje (h:Xo U hp hp') (rs:List Nat):∀ {ids:List Nat},(∀ i∈ids,U i)→ZcA hp rs ids=ZcA hp' rs ids
 | [],_=>rfl
 | i :: ids,hi=>by
  have ih:=Zje h rs (ids:=ids) fun k hk=>hi k (by simp[hk]);simp only[ZcA,LG] at ih ⊢;rw[ih,h.1 i (hi i (by simp))]
theorem Zwn (h:Xo U hp hp') (C:Orc) (m:Nat→Bool) (base f:Nat) {ab:List AV} (hx:∀ x∈ab,InU U x):Zeh C m hp base f ab=Zeh C m hp' base f ab:=by
 unfold Zeh;rw[← Zqh h m 0 hx];cases ha:args hp m 0 ab with
 | none=>rfl
 | some as=>
  simp only[bnd];have ad:=Zza 0 hx ha;have ht:∀ i∈as.flatMap Zy,U i:=fun i hi=>by
   obtain⟨y,hy,hi⟩:=Kx.1 hi;exact ad y hy i hi
  have hf:X9 hp=X9 hp':=rfl;rw[hf,← Zed h (X9 hp') (as.flatMap Zy) [] ht];have aa:=ZkJ h (X9 hp') (as.flatMap Zy) [] ht (by simp);unfold Zgq;rw[Zqi h aa,Zje h _ aa];congr 1
  congr 1
  funext q
  exact Zqj h aa (Ztg hx) (m 99) q.1 q.2
theorem clo_in {f:Nat} {aa:List AV} (h:InU U (.clo f aa)):∀ x∈aa,x.atom=true→InU U x:=by
 intro x hx ha id ab;refine h id (Kx.2 ⟨x,hx,?_⟩);cases x<;>first | exact ab | (simp[AV.atom] at ha)
end
end Go.Abs
set_option linter.unusedVariables false
set_option linter.unusedSimpArgs false
namespace Go.Abs
open Go
section
variable {U:Nat→Prop} {hp hp' : Hp}
def ZkK (U:Nat→Prop) (x:AV):Prop:=InU U x∧∀ f caps,x=.clo f caps→∀ c∈caps,InU U c
theorem Zit {sl:Sl}:∀ {xs:List Opd} {v:AV},v∈evL sl xs→∃ x∈xs,v=evO sl x
 | [],v,h=>by simp[evL] at h
 | x :: xs,v,h=>by
  simp only[evL] at h;rcases Kg.1 h with rfl | h
  ·exact⟨x,by simp,rfl⟩
  ·obtain⟨y,h1,h2⟩:=Zit h;exact⟨y,Ky _ h1,h2⟩
theorem Zbp (h:Xo U hp hp') (C:Orc) (M:Zp) {sl:Sl} (base:Nat) {c:COp} (hx:∀ x∈ZH c,ZkK U (evO sl x)):vop C M sl hp base c=vop C M sl hp' base c:=by
 cases c<;>simp only[ZH] at hx<;>simp only[vop]
 case buildSl s xs=>
  cases hv:evL sl xs with
  | nil=>rfl
  | cons v vs=>
   simp only[buildSl];rw[Zjd h];intro y hy;rw[← hv] at hy;obtain⟨z,h1,rfl⟩:=Zit hy;exact(hx z h1).1
 case load g s a=>rw[Zwj h (hx a (by simp)).1]
 case store slc s a x=>rw[ZuM h (hx a (by simp)).1 _ _ _ _ (Zqf (hx x (by simp)).1)]
 case slice s x lo hi=>rw[ZuI h (hx x (by simp)).1]
 case slice0 x hi mx=>unfold slice0;rw[ZjM h (hx x (by simp)).1]
 case slice3 s x lo hi mx=>unfold slice3;rw[ZjM h (hx x (by simp)).1]
 case clear s z x=>rw[ZuJ h (hx x (by simp)).1]
 case iaS s x i=>
  congr 1
  funext n
  simp only[Zjm];rw[Zl4 h (hx x (by simp)).1]
 case len x=>rw[ZjM h (hx x (by simp)).1]
 case append s b str flat x y=>
  simp only[ZwS];rw[ZkI h (hx x (by simp)).1,ZkI h (hx y (by simp)).1];generalize Ya hp' (evO sl x)=mx;generalize Ya hp' (evO sl y)=my;cases mx with
  | nil=>simp only[ZeX];rw[Zjb h (hx x (by simp)).1 (hx y (by simp)).1]
  | cons i r=>
   cases my with
   | nil=>simp only[ZeX];rw[Zjb h (hx x (by simp)).1 (hx y (by simp)).1]
   | cons j t=>simp only[ZeX];rw[Zqe h (hx x (by simp)).1 (hx y (by simp)).1]
 case appT s b f x y=>exact Zqe h (hx x (by simp)).1 (hx y (by simp)).1 s b base
 case buildT s n xs=>
  refine ZuL h fun y hy=>?_;obtain⟨z,h1,rfl⟩:=Zit hy;exact(hx z h1).1
 case call f as=>
  have hf:=hx f (by simp);cases he:evO sl f<;>simp only[ZeY]
  rename_i g aa;refine Zwn h C (M g) base g fun y hy=>?_;rcases Kf.1 hy with hy | hy
  ·obtain⟨z,h1,rfl⟩:=Zit hy;exact(hx z (by simp[h1])).1
  ·exact hf.2 g aa he y hy
theorem Zth {Γ:Gh} {w:World} {I:Nat→Prop} {x:AV} {v:Value} (h:Vj Γ w I x v):∀ id∈Zo x,∃ r,Γ id=some r:=by
 intro id aa;cases x<;>simp only[Zo,KH,Ln,Kg,or_false] at aa
 case ptr i off=>subst aa;obtain⟨b,h1,_⟩:=h;exact⟨_,h1⟩
 case prow i sz k off=>subst aa;obtain⟨b,o,n,c,h1,_⟩:=h;exact⟨_,h1⟩
 case own i=>subst aa;obtain⟨a,n,c,sz,h1,_⟩:=h;exact⟨_,h1⟩
 case ownv i off n=>subst aa;obtain⟨a0,m,c,sz,a,h1,_⟩:=h;exact⟨_,h1⟩
 case bnil i e=>subst aa;obtain⟨b,h1,_⟩:=h;exact⟨_,h1⟩
theorem Zl5 {Γ:Gh} {w:World} {I:Nat→Prop}:∀ {xs:List AV} {vs:List Value},ZD (Vj Γ w I) xs vs→∀ id∈xs.flatMap Zo,∃ r,Γ id=some r
 | [],[],_,id,aa=>by simp at aa
 | [],_ :: _,h,_,_=>h.elim
 | _ :: _,[],h,_,_=>h.elim
 | x :: xs,v :: vs,h,id,aa=>by
  simp only[KO,Kf] at aa;rcases aa with aa | aa
  ·exact Zth h.1 id aa
  ·exact Zl5 h.2 id aa
theorem Zl6 {Γ:Gh} {w:World} {I:Nat→Prop} {x:AV} {v:Value} (h:ZaR Γ w I x v):∀ id∈ZA x,∃ r,Γ id=some r:=by
 intro id aa;by_cases hs:x.small=true
 ·rw[(YW hs (fun k=>k) []).2.2.2.2.2] at aa;rw[(UO hs v).2.1] at h;exact Zth h id aa
 ·cases x with
  | agg cs=>obtain⟨us,_,h2⟩:=h;exact Zl5 h2 id aa
  | clo f cs=>obtain⟨us,_,h2⟩:=h;exact Zl5 h2 id aa
  | tup cs=>exact h.elim
  | d x=>simp[ZA,Zo] at aa
  | _=>exact absurd rfl hs
theorem Zz4 {Γ:Gh} {w:World} {I:Nat→Prop} {x:AV} {v:Value} (h:X3 Γ w I x v):∀ id∈ZA x,∃ r,Γ id=some r:=Zl6 h.rep2
theorem Zqk {Γ:Gh} {w:World} {I:Nat→Prop}:∀ {xs:List AV} {vs:List Value},ZD (ZaR Γ w I) xs vs→∀ id∈xs.flatMap ZA,∃ r,Γ id=some r
 | [],[],_,id,aa=>by simp at aa
 | [],_ :: _,h,_,_=>h.elim
 | _ :: _,[],h,_,_=>h.elim
 | x :: xs,v :: vs,h,id,aa=>by
  simp only[KO,Kf] at aa;rcases aa with aa | aa
  ·exact Zl6 h.1 id aa
  ·exact Zqk h.2 id aa
theorem Zwo {Γ:Gh} {w:World} {I:Nat→Prop} {x:AV} {v:Value} (h:Rep Γ w I x v):∀ id∈Zy x,∃ r,Γ id=some r:=by
 intro id aa;by_cases ht:∃ vs,x=.tup vs
 ·obtain⟨vs,rfl⟩:=ht;obtain⟨us,_,h2⟩:=h;exact Zqk h2 id aa
 ·have e:Rep Γ w I x v=ZaR Γ w I x v:=by cases x<;>first | rfl | exact absurd ⟨_,rfl⟩ ht
  rw[e] at h;refine Zl6 h id ?_;cases x<;>first | exact aa | exact absurd ⟨_,rfl⟩ ht
theorem Zql {Γ:Gh} {w:World} {I:Nat→Prop}:∀ {xs:List AV} {vs:List Value},ZD (X3 Γ w I) xs vs→∀ id∈xs.flatMap ZA,∃ r,Γ id=some r
 | [],[],_,id,aa=>by simp at aa
 | [],_ :: _,h,_,_=>h.elim
 | _ :: _,[],h,_,_=>h.elim
 | x :: xs,v :: vs,h,id,aa=>by
  simp only[KO,Kf] at aa;rcases aa with aa | aa
  ·exact Zz4 h.1 id aa
  ·exact Zql h.2 id aa
theorem ZBu {Γ:Gh} {w:World} {I:Nat→Prop} {x:AV} {v:Value} (hn:∀ id,¬U id→Γ id=none) (h:Rep Γ w I x v):ZkK U x:=by
 have ab:∀ id,(∃ r,Γ id=some r)→U id:=fun id ⟨r,hr⟩=>Classical.byContradiction fun hu=>by rw[hn id hu] at hr;cases hr
 refine⟨fun id aa=>ab id (Zwo h id aa),fun f ad hx c hc=>?_⟩;subst hx;obtain⟨us,_,h2⟩:=h;obtain⟨i,hi⟩:=LC hc;obtain⟨u,_,h3⟩:=h2.get i c hi;exact fun id aa=>ab id (Zwo h3.rep2.rep id aa)
end
section
variable {P:Program} {nt:Nat} {F A I:Nat→Prop} {Γ:Gh} {U:Nat→Prop} {sl:Sl} {hp:Hp} {a:Act} {w:World}
theorem Sim.good (h:Sim nt F A I Γ U sl hp a w) (t:Nat):ZkK U (gs sl t):=ZBu h.names (h.slots t)
theorem Sim.agree (h:Sim nt F A I Γ U sl hp a w) {hp' : Hp} (hs:∀ id,U id→lkp hp id=lkp hp' id):Xo U hp hp':=by
 refine⟨hs,fun id o hu hl i hi=>?_⟩;have ho:=h.objs id o hl;cases o with
 | box cs=>
  obtain⟨b,cur,e,_,_,_,_,h5,_⟩:=ho;obtain⟨r,hr⟩:=Zql h5 i hi;exact Classical.byContradiction fun hu=>by rw[h.names i hu] at hr;cases hr
 | row sz xs ex fz=>simp[ZaL] at hi
 | gone=>simp[ZaL] at hi
 | tree sz ns xs lk=>simp[ZaL] at hi
theorem Oper.wp_ex {o:Oper} {a:Act} {w:World} {K:Act→World→Prop} (h:o.wp P a w K (fun _ _ _=>False)):∃ a' w',K a' w':=by
 unfold Oper.wp at h;generalize (execOp a.eval o).run P w=r at h;cases r with
 | ok n w' =>
  cases n<;>simp only[Oper.upon] at h
  case value v=>exact⟨_,_,h⟩
  case skip=>exact⟨_,_,h⟩
  case defer d=>exact⟨_,_,h⟩
  case enter f args=>
   obtain⟨e,aa,fr,he,_⟩:=h [];cases e with
   | returned v=>exact⟨_,_,he⟩
   | panicked c=>exact he.elim
   | outgrown=>obtain⟨a,w,hf⟩:=he;exact hf.elim
  case row row args=>
   obtain⟨v,aa,he,_⟩:=h default [];exact⟨_,_,he⟩
 | halt x w'=>cases x<;>simp only[Oper.upon] at h
end
end Go.Abs
set_option linter.unusedVariables false
set_option linter.unusedSimpArgs false
namespace Go.Abs
open Go
def X4 (s s' : Sl×Hp):Prop:=(∀ t,gs s.1 t=gs s'.1 t)∧∀ id,lkp s.2 id=lkp s'.2 id
theorem X4.refl (s:Sl×Hp):X4 s s:=⟨fun _=>rfl,fun _=>rfl⟩
theorem X4.symm {s s' : Sl×Hp} (h:X4 s s'):X4 s' s:=⟨fun t=>(h.1 t).symm,fun id=>(h.2 id).symm⟩
theorem X4.trans {a b c:Sl×Hp} (h:X4 a b) (k:X4 b c):X4 a c:=⟨fun t=>(h.1 t).trans (k.1 t),fun id=>(h.2 id).trans (k.2 id)⟩
theorem Zcx:∀ (l:Hp) {hp hp' : Hp},(∀ id,lkp hp id=lkp hp' id)→∀ id,lkp (Zi hp l) id=lkp (Zi hp' l) id
 | [],_,_,h=>h
 | (k,o) :: r,hp,hp',h=>by
  simp only[Zi];exact Zcx r fun id=>by rw[Qz,Qz,h id]
theorem ZkL:∀ (l:List Nat) {hp hp' : Hp},(∀ id,lkp hp id=lkp hp' id)→∀ id,lkp (Qe hp l) id=lkp (Qe hp' l) id
 | [],_,_,h=>h
 | d :: r,hp,hp',h=>by
  simp only[Qe];exact ZkL r fun id=>by rw[ZgH,ZgH,h id]
theorem ZBv (ce:Zf) (dst:Option Nat) {s s' : Sl×Hp} (h:X4 s s'):X4 (ce.on dst s.1 s.2) (ce.on dst s'.1 s'.2):=by
 refine⟨fun t=>?_,fun id=>?_⟩
 ·show gs (Zt (Xl ce.gone s.1) dst ce.eff.val) t=gs (Zt (Xl ce.gone s'.1) dst ce.eff.val) t;rw[QG,QG,QU,QU,h.1 t]
 ·exact Zcx _ (Zcx _ (ZkL _ fun id=>by rw[Qi,Qi,Uc,Uc,h.2 id])) id
noncomputable def ZS (C:Orc) (M:Zp) (nx i:Nat) (t:Bool) (o:CO) (s:Sl×Hp):Option (Sl×Hp):=
 bnd (Z6 s.1 o.guard) fun b=>if b then YZ (nx+64*i) o.dst s.1 s.2 (WQ C M nx i t o.op s.1 s.2) else some (Zt s.1 o.dst (.tup []),s.2)
noncomputable def ZJ (C:Orc) (M:Zp) (os:List CO) (nx i:Nat) (s:Sl×Hp):Option (Sl×Hp):=bnd os[i]? fun o=>ZS C M nx i (Z1 os i) o s
noncomputable def Zgh (C:Orc) (M:Zp) (os:List CO) (nx:Nat):List Nat→Sl×Hp→Option (Sl×Hp)
 | [],s=>some s
 | i :: l,s=>bnd (ZJ C M os nx i s) (Zgh C M os nx l)
theorem ZjN (C:Orc) (M:Zp) (os:List CO) (nx:Nat):∀ (aa:List CO) (i:Nat) (t:Bool) (sl:Sl) (hp:Hp),os.drop i=aa →
  Zbd C M nx i t aa sl hp=Zgh C M os nx (List.range' i aa.length) (sl,hp)
 | [],i,t,sl,hp,_=>rfl
 | o :: aa,i,t,sl,hp,hd=>by
  have h1:os[i]?=some o:=by
   have:(os.drop i)[0]?=some o:=by rw[hd];rfl
   rw[Lm] at this;simpa using this
  have h2:os.drop (i+1)=aa:=by rw[← List.drop_drop,hd];rfl
  have h4:CO.starts o=Z1 os i:=by simp only[Z1,h1]
  simp only[Zbd,Km,List.range'_succ,Zgh,ZJ,h1,Zg,ZS,h4];cases hw:Z6 sl o.guard with
  | none=>rfl
  | some b=>
   cases b with
   | true=>
    simp only[Zg,Kk];cases hs:YZ (nx+64*i) o.dst sl hp (WQ C M nx i (Z1 os i) o.op sl hp) with
    | none=>rfl
    | some r=>
     simp only[Zg];exact ZjN C M os nx aa (i+1) t r.1 r.2 h2
   | false=>
    simp only[Zg,Ka,Kj];exact ZjN C M os nx aa (i+1) t _ _ h2
theorem ZxZ {hp hp' : Hp} (h:∀ id,lkp hp id=lkp hp' id):Xo (fun _=>True) hp hp':=⟨fun id _=>h id,fun _ _ _ _ _ _=>trivial⟩
theorem Zz5 (C:Orc) (M:Zp) {s s' : Sl×Hp} (h:X4 s s') (base:Nat) (c:COp):vop C M s.1 s.2 base c=vop C M s'.1 s'.2 base c:=by
 have h1:∀ x:Opd,evO s.1 x=evO s'.1 x:=fun x=>by cases x<;>simp only[evO];exact h.1 _
 rw[Xm C M s.2 base (sl:=s.1) (sl':=s'.1) fun x _=>h1 x];exact Zbp (ZxZ h.2) C M base fun x _=>⟨fun _ _=>trivial,fun _ _ _ _ _ _ _=>trivial⟩
theorem Zwp {s s' : Sl×Hp} (h:X4 s s') (g:Option (Nat×Bool)):Z6 s.1 g=Z6 s'.1 g:=by
 cases g with
 | none=>rfl
 | some q=>simp only[Z6,h.1]
theorem Zwq {C:Orc} {M:Zp} {os:List CO} {nx i:Nat} {s s' r:Sl×Hp} (h:X4 s s') (hr:ZJ C M os nx i s=some r):∃ r',ZJ C M os nx i s'=some r'∧X4 r r':=by
 unfold ZJ at hr ⊢;obtain⟨o,h1,hr⟩:=Za hr;rw[h1,Zg];unfold ZS at hr ⊢;obtain⟨b,h2,hr⟩:=Za hr;rw[← Zwp h,h2,Zg];cases b with
 | true=>
  simp only[Kk] at hr ⊢;obtain⟨ce,h3,h4,rfl⟩:=XB hr;have h5:WQ C M nx i (Z1 os i) o.op s'.1 s'.2=some ce:=by
   rw[← h3];unfold WQ;rw[Zz5 C M h]
  refine⟨ce.on o.dst s'.1 s'.2,?_,ZBv ce o.dst h⟩;unfold YZ;rw[h5,Zg,Kl h4]
 | false=>
  simp only[Ka,Kj] at hr ⊢;cases hr;refine⟨_,rfl,fun t=>?_,h.2⟩;show gs (Zt s.1 o.dst (.tup [])) t=gs (Zt s'.1 o.dst (.tup [])) t;rw[QG,QG,h.1 t]
theorem Zqm {C:Orc} {M:Zp} {os:List CO} {nx:Nat}:∀ {l:List Nat} {s s' r:Sl×Hp},X4 s s'→Zgh C M os nx l s=some r→∃ r',Zgh C M os nx l s'=some r'∧X4 r r'
 | [],s,s',r,h,hr=>by simp only[Zgh] at hr ⊢;cases hr;exact⟨s',rfl,h⟩
 | i :: l,s,s',r,h,hr=>by
  simp only[Zgh] at hr ⊢;obtain⟨s1,h1,hr⟩:=Za hr;obtain⟨aa,h2,h3⟩:=Zwq h h1;rw[h2,Zg];exact Zqm h3 hr
theorem QI {sl:Sl} {d:Option Nat} {v:AV} {o:CO} (h:QS d (VE o)=true):Z6 (Zt sl d v) o.guard=Z6 sl o.guard:=by
 cases hg:o.guard with
 | none=>rfl
 | some q=>
  simp only[Z6];rw[QG,Ki];intro e;rw[e] at h;simp[QS,VE,hg,Zq4] at h
theorem Ue {sl:Sl} {d:Option Nat} {v:AV} {o:CO} (h:QS d (VE o)=true):∀ x∈ZH o.op,evO (Zt sl d v) x=evO sl x:=by
 intro x hx;cases x with
 | t n=>
  simp only[evO];rw[QG,Ki];intro e;rw[e] at h;simp only[QS,VE,KS,K0,KT] at h;exact h (Kf.2 (.inl (Kx.2 ⟨_,hx,by simp[Zcg]⟩)))
 | _=>rfl
theorem ZjO {C:Orc} {M:Zp} {nx i:Nat} {o:CO} {s s' : Sl×Hp} (h:ZS C M nx i false o s=some s') :
  ∃ v adds,s'=(Zt s.1 o.dst v,Zi s.2 adds)∧(∀ k x,(k,x)∈adds→nx+64*i≤k∧k<nx+64*i+64) ∧
   ∀ aa : Sl×Hp,Z6 aa.1 o.guard=Z6 s.1 o.guard→vop C M aa.1 aa.2 (nx+64*i) o.op=vop C M s.1 s.2 (nx+64*i) o.op→ZS C M nx i false o aa=some (Zt aa.1 o.dst v,Zi aa.2 adds):=by
 unfold ZS at h;obtain⟨b,hw,h⟩:=Za h;cases b with
 | true=>
  simp only[Kk] at h;obtain⟨ce,h1,h2,rfl⟩:=XB h;unfold WQ at h1;simp only[Ka,Kj] at h1;have ad:=h1;unfold ZdR at h1;obtain⟨c,h3,h1⟩:=Za h1;unfold ZgB at h1;split at h1
  ·rename_i e1 e2 e3 e4;cases h1;have ab:∀ s:Sl×Hp,ce.on o.dst s.1 s.2=(Zt s.1 o.dst ce.eff.val,Zi s.2 ce.eff.adds):=by
    intro s;unfold Zf.on Eff.on;rw[e1,e2,e3,e4];rfl
   refine⟨ce.eff.val,ce.eff.adds,ab s,J4 h2,fun aa g1 g2=>?_⟩;unfold ZS;rw[g1,hw,Zg];simp only[Kk];unfold YZ WQ;simp only[Ka,Kj];rw[g2,ad,Zg,Kl h2,ab]
  ·cases h1
 | false=>
  simp only[Ka,Kj] at h;cases h;refine⟨.tup [],[],rfl,fun k x hk=>by simp at hk,fun aa g1 g2=>?_⟩;unfold ZS;rw[g1,hw,Zg];rfl
theorem ZaP {U:Nat→Prop} {a:AV} (h:Vk (.v a)=true):ZkK U a:=by
 simp only[Vk,Kd,List.isEmpty_iff,KS] at h;refine⟨fun id aa=>by rw[h.1] at aa;simp at aa,fun f ab hx=>?_⟩;subst hx;simp[Zs6] at h
section
variable {P:Program} {nt:Nat}
def Zjf (nt:Nat) (s:Sl×Hp) (U:Nat→Prop):Prop:=∃ F A I Γ a w,Sim nt F A I Γ U s.1 s.2 a w
theorem Uf {U:Nat→Prop} {base:Nat} (hf:Xk U base) {adds:Hp} (ha:∀ k x,(k,x)∈adds→base≤k∧k<base+64) (hp:Hp):∀ id,U id→lkp hp id=lkp (Zi hp adds) id:=by
 intro id hu;rw[ZG];intro o ho;obtain⟨h1,h2⟩:=ha id o ho;exact hf id h1 h2 hu
theorem Jq {sl:Sl} {d e:Option Nat} (h:Zbv d e=true) (u v:AV) (t:Nat):gs (Zt (Zt sl d u) e v) t=gs (Zt (Zt sl e v) d u) t:=by
 simp only[QG];by_cases h1:e=some t
 ·by_cases h2:d=some t
  ·rw[h1,h2] at h;simp[Zbv] at h
  ·simp[h1,h2]
 ·simp[h1]
theorem ZBw {adds aa : Hp} {b b' : Nat} (ha:∀ k x,(k,x)∈adds→b≤k∧k<b+64) (ad : ∀ k x,(k,x)∈aa→b'≤k∧k<b'+64) (hd:b+64≤b'∨b'+64≤b) (hp:Hp) (id:Nat) :
  lkp (Zi (Zi hp adds) aa) id=lkp (Zi (Zi hp aa) adds) id:=by
 have ab:∀ (l:Hp) (hp hp' : Hp),(∀ o,(id,o)∉l)→lkp (Zi hp l) id=lkp hp id:=fun l hp _ h=>ZG l hp id h;by_cases h1:∃ o,(id,o)∈adds
 ·have h2:∀ o,(id,o)∉aa:=fun o ho=>by
   obtain⟨o',ae⟩:=h1;have:=ha id o' ae;have:=ad id o ho;omega
  rw[ZG aa _ id h2];have ab:∀ (l:Hp) (hp hp' : Hp),lkp hp id=lkp hp' id→lkp (Zi hp l) id=lkp (Zi hp' l) id:=by
   intro l
   induction l with
   | nil=>intro hp hp' h;exact h
   | cons q r ih=>
    intro hp hp' h;obtain⟨k,x⟩:=q;simp only[Zi];exact ih _ _ (by rw[Qz,Qz,h])
  exact ab adds _ _ (ZG aa hp id h2).symm
 ·have h2:∀ o,(id,o)∉adds:=fun o ho=>h1 ⟨o,ho⟩;rw[ZG adds _ id h2];have ab:∀ (l:Hp) (hp hp' : Hp),lkp hp id=lkp hp' id→lkp (Zi hp l) id=lkp (Zi hp' l) id:=by
   intro l
   induction l with
   | nil=>intro hp hp' h;exact h
   | cons q r ih=>
    intro hp hp' h;obtain⟨k,x⟩:=q;simp only[Zi];exact ih _ _ (by rw[Qz,Qz,h])
  exact ab aa _ _ (ZG adds hp id h2)
theorem Zqn {C:Orc} {M:Zp} {os:List CO} {nx i j:Nat} {oi oj:CO} (an:os[i]?=some oi) (ab:os[j]?=some oj) (ae:Z1 os j=false) (ao:i≠j) (af:XQ oj oi=true)
  (ad:∀ (k:Nat) (o:CO),os[k]?=some o→∀ x∈ZH o.op,Vk x=true) {s s1 s2:Sl×Hp} {U:Nat→Prop} (hs:Zjf nt s U) (ap:Xk U (nx+64*i)) (aq:Xk U (nx+64*j))
  (h1:ZJ C M os nx j s=some s1) (h2:ZS C M nx i false oi s1=some s2):∃ t1,ZS C M nx i false oi s=some t1∧∃ t2,ZJ C M os nx j t1=some t2∧X4 t2 s2:=by
 obtain⟨F,A,I,Γ,a,w,aa⟩:=hs;simp only[XQ,Kd] at af;obtain⟨⟨ag,ar⟩,ah⟩:=af;have good:∀ (k:Nat) (o:CO),os[k]?=some o→∀ x∈ZH o.op,ZkK U (evO s.1 x):=by
  intro k o ho x hx;cases x with
  | t n=>exact aa.good n
  | v y=>exact ZaP (ad k o ho _ hx)
  | f n=>exact⟨fun id au=>by simp[evO,Zy,ZA] at au,fun f av h c hc=>by cases h;simp at hc⟩
 simp only[ZJ,ab,Zg,ae] at h1;obtain⟨vj,aj,rfl,ak,aw⟩:=ZjO h1;obtain⟨vi,ai,rfl,al,am⟩:=ZjO h2;dsimp only at am;have e1:ZS C M nx i false oi s=some (Zt s.1 oi.dst vi,Zi s.2 ai):=by
  refine am s (QI ag).symm ?_;rw[Xm C M (Zi s.2 aj) (nx+64*i) (Ue (o:=oi) ag)];exact Zbp (aa.agree (Uf aq ak s.2)) C M _ (good i oi an)
 refine⟨_,e1,?_⟩;have e2:ZS C M nx j false oj (Zt s.1 oi.dst vi,Zi s.2 ai)=some (Zt (Zt s.1 oi.dst vi) oj.dst vj,Zi (Zi s.2 ai) aj):=by
  refine aw (Zt s.1 oi.dst vi,Zi s.2 ai) (QI ah) ?_;rw[Xm C M (Zi s.2 ai) (nx+64*j) (Ue (o:=oj) ah)];exact(Zbp (aa.agree (Uf ap al s.2)) C M _ (good j oj ab)).symm
 refine⟨_,by simp only[ZJ,ab,Zg,ae];exact e2,fun t=>?_,fun id=>?_⟩
 ·exact(Jq ar vj vi t).symm
 ·refine ZBw al ak ?_ s.2 id;rcases LV ao with h | h
  ·left;omega
  ·right;omega
theorem Zz6 {C:Orc} {M:Zp} {os:List CO} {nx i j:Nat} {oi oj:CO} (ab:os[i]?=some oi) (ad:os[j]?=some oj) (ae:Z1 os i=false) (af:Z1 os j=false) (ag:i≠j) (ah:XQ oj oi=true)
  (aa:∀ (k:Nat) (o:CO),os[k]?=some o→∀ x∈ZH o.op,Vk x=true) {s s1 s2:Sl×Hp} {U:Nat→Prop} (hs:Zjf nt s U) (ai:Xk U (nx+64*i)) (aj:Xk U (nx+64*j))
  (h1:ZJ C M os nx j s=some s1) (h2:ZJ C M os nx i s1=some s2):∃ t1,ZJ C M os nx i s=some t1∧∃ t2,ZJ C M os nx j t1=some t2∧X4 t2 s2:=by
 have e:∀ s:Sl×Hp,ZJ C M os nx i s=ZS C M nx i false oi s:=fun s=>by simp only[ZJ,ab,Zg,ae]
 rw[e] at h2;simp only[e];exact Zqn ab ad af ag ah aa hs ai aj h1 h2
end
end Go.Abs
