/- Own text. -/
import Derived.Test.YtnachaiejoflhaaAbsSound2
set_option linter.unusedVariables false
set_option linter.unusedSimpArgs false
namespace Go.Abs
open Go
theorem Zas {sl sl' : Sl}:∀ {xs:List Opd},(∀ x∈xs,evO sl x=evO sl' x)→evL sl xs=evL sl' xs
 | [],_=>rfl
 | x :: xs,h=>by simp only[evL,h x (by simp),Zas (xs:=xs) fun y hy=>h y (Km _ hy)]
theorem Zko {sl sl' : Sl}:∀ {xs:List (Nat×Nat×Opd)},(∀ x∈xs.map (fun q=>q.2.2),evO sl x=evO sl' x)→evP sl xs=evP sl' xs
 | [],_=>rfl
 | (a,b,x) :: xs,h=>by simp only[evP,h x (by simp),Zko (xs:=xs) fun y hy=>h y (by simp only[Kx,Kf];exact .inr hy)]
theorem ZcU {sl sl' : Sl} {x:Option Opd} (h:∀ y∈Znp x,evO sl y=evO sl' y):evM sl x=evM sl' x:=by
 cases x with
 | none=>rfl
 | some y=>simp only[evM,h y (by simp[Znp])]
theorem QB (C:Orc) (M:Zj) {sl sl' : Sl} (hp:Hp) (base:Nat):∀ {c:COp},(∀ x∈Zv c,evO sl x=evO sl' x)→vop C M sl hp base c=vop C M sl' hp base c:=by
 intro c h;cases c<;>simp only[Zv] at h<;>simp only[vop]
 case move x=>rw[h x (by simp)]
 case assign s x=>rw[h x (by simp)]
 case pick c a b=>rw[h c (by simp),h a (by simp),h b (by simp)]
 case box x=>rw[h x (by simp)]
 case build zs ps=>rw[Zko h]
 case buildSl s xs=>rw[Zas h]
 case load g s a=>rw[h a (by simp)]
 case store slc s a x=>rw[h a (by simp),h x (by simp)]
 case nilCheck x=>rw[h x (by simp)]
 case bin op eq x y=>rw[h x (by simp),h y (by simp)]
 case un op x=>rw[h x (by simp)]
 case eqA neg n x y=>rw[h x (by simp),h y (by simp)]
 case convI k x=>rw[h x (by simp)]
 case convS x=>rw[h x (by simp)]
 case fn f cs=>rw[Zas h]
 case make s b z l c=>rw[h l (by simp),h c (by simp)]
 case slice s x lo hi=>rw[h x (by simp),ZcU fun y hy=>h y (by simp[hy]),ZcU (x:=hi) fun y hy=>h y (by simp[hy])]
 case sliceS x lo hi=>rw[h x (by simp),ZcU fun y hy=>h y (by simp[hy]),ZcU (x:=hi) fun y hy=>h y (by simp[hy])]
 case slice0 x hi mx=>rw[h x (by simp),h hi (by simp),h mx (by simp)]
 case shift off x=>rw[h x (by simp)]
 case part g s off x=>rw[h x (by simp)]
 case iaS s x i=>rw[h x (by simp),h i (by simp)]
 case iaA len s x i=>rw[h x (by simp),h i (by simp)]
 case ixS x i=>rw[h x (by simp),h i (by simp)]
 case ixA g s len x i=>rw[h x (by simp),h i (by simp)]
 case nth i x=>rw[h x (by simp)]
 case len x=>rw[h x (by simp)]
 case lenS x=>rw[h x (by simp)]
 case append s b str flat x y=>rw[h x (by simp),h y (by simp)]
 case min x y=>rw[h x (by simp),h y (by simp)]
 case max x y=>rw[h x (by simp),h y (by simp)]
 case slice3 s x lo hi mx=>rw[h x (by simp),h lo (by simp),h hi (by simp),h mx (by simp)]
 case clear s z x=>rw[h x (by simp)]
 case buildT s n xs=>rw[Zas h]
 case appT s b f x y=>rw[h x (by simp),h y (by simp)]
 case asgT s n x=>rw[h x (by simp)]
 case makeT s b n z l c=>rw[h l (by simp),h c (by simp)]
 case call f as=>rw[h f (by simp),Zas (xs:=as) fun y hy=>h y (Km _ hy)]
section
variable {U:Nat→Prop} {hp hp' : Hp}
structure QE (U:Nat→Prop) (hp hp' : Hp):Prop where
 same:∀ id,U id→lkp hp id=lkp hp' id
 closed:∀ id o,U id→lkp hp id=some o→∀ i∈VX o,U i
def InU (U:Nat→Prop) (x:AV):Prop:=∀ id∈Zo x,U id
theorem ZmJ (h:QE U hp hp') {x:AV} (hx:InU U x) (g:Bool) (s:Nat):Vc hp g s x=Vc hp' g s x:=by
 cases x<;>simp only[Vc]
 case ptr id off=>rw[h.same id (hx id (by simp[Zo,Zs,Zi]))]
 case prow id sz i off=>rw[h.same id (hx id (by simp[Zo,Zs,Zi]))]
theorem Zfq (h:QE U hp hp') {x:AV} (hx:InU U x) (sz n:Nat):Qd hp sz n x=Qd hp' sz n x:=by
 cases x<;>simp only[Qd]
 case d x=>cases x<;>rfl
 case own id=>rw[h.same id (hx id (by simp[Zo,Zs,Zi]))]
 case ownv id off m=>rw[h.same id (hx id (by simp[Zo,Zs,Zi]))]
theorem Zln (h:QE U hp hp') {x:AV} (hx:InU U x) (s:Nat) (lo hi:Option AV):Yf hp s lo hi x=Yf hp' s lo hi x:=by
 cases x<;>simp only[Yf]
 case d x=>cases x<;>rfl
 case own id=>rw[h.same id (hx id (by simp[Zo,Zs,Zi]))]
 case ownv id off m=>rw[h.same id (hx id (by simp[Zo,Zs,Zi]))]
theorem ZdS (h:QE U hp hp') {x:AV} (hx:InU U x):JX hp x=JX hp' x:=by
 cases x<;>simp only[JX]
 case d x=>cases x<;>rfl
 case own id=>rw[h.same id (hx id (by simp[Zo,Zs,Zi]))]
theorem Zlo (h:QE U hp hp') {x:AV} (hx:InU U x) (s:Nat) (z:D):ZaW hp s z x=ZaW hp' s z x:=by
 cases x<;>simp only[ZaW]
 case ownv id off m=>rw[h.same id (hx id (by simp[Zo,Zs,Zi]))]
theorem ZmK (h:QE U hp hp') {x:AV} (hx:InU U x) (flat:Bool):Zca hp flat x=Zca hp' flat x:=by
 cases x<;>simp only[Zca]
 case d x=>cases x<;>rfl
 case own id=>rw[h.same id (hx id (by simp[Zo,Zs,Zi]))]
 case ownv id off m=>rw[h.same id (hx id (by simp[Zo,Zs,Zi]))]
theorem ZmL (h:QE U hp hp') {x:AV} (hx:InU U x) (sz b base:Nat) (aa:List Nat) (ys:List D) (ex:Bool):ZdD hp sz b base aa ys ex x=ZdD hp' sz b base aa ys ex x:=by
 cases x<;>simp only[ZdD]
 case own id=>rw[h.same id (hx id (by simp[Zo,Zs,Zi]))]
 case ownv id off m=>rw[h.same id (hx id (by simp[Zo,Zs,Zi]))]
theorem Zjm (h:QE U hp hp') {x:AV} (hx:InU U x):JK hp x=JK hp' x:=by
 cases x<;>simp only[JK]
 case own id=>rw[h.same id (hx id (by simp[Zo,Zs,Zi]))]
theorem Zjn (h:QE U hp hp') {x:AV} (hx:InU U x) (s b base id n:Nat) (ys:List D):UE hp s b base id n ys x=UE hp' s b base id n ys x:=by
 cases x<;>simp only[UE]
 case own k=>rw[h.same k (hx k (by simp[Zo,Zs,Zi]))]
theorem Zdq (h:QE U hp hp') {x y:AV} (hx:InU U x) (hy:InU U y) (s b:Nat) (str flat:Bool) (base:Nat):V6 hp s b str flat base x y=V6 hp' s b str flat base x y:=by
 unfold V6;rw[ZmK h hy];congr 1
 funext q
 rw[ZmL h hx]
theorem Zex (h:QE U hp hp') {x:AV} (hx:InU U x):Q0 hp x=Q0 hp' x:=by
 cases x<;>simp only[Q0]
 case own id=>rw[h.same id (hx id (by simp[Zo,Zs,Zi]))]
theorem Zlp (h:QE U hp hp') (ids:List Nat):QE U (meltIn hp ids) (meltIn hp' ids):=by
 refine⟨fun id aa=>by rw[VG,VG,h.same id aa],fun id o aa hl=>?_⟩;rw[VG] at hl;cases hl0:lkp hp id with
 | none=>rw[hl0] at hl;cases hl
 | some o0=>
  rw[hl0] at hl;simp only[KM,Option.some.injEq] at hl;subst hl;have:=h.closed id o0 aa hl0;split
  ·cases o0 with
   | tree s n xs l=>cases l<;>exact this
   | _=>exact this
  ·exact this
theorem Zdr (h:QE U hp hp') {x y:AV} (hx:InU U x) (hy:InU U y) (s b:Nat) (str flat:Bool) (base:Nat) (ms:List Nat):XO hp s b str flat base x y ms=XO hp' s b str flat base x y ms:=by
 cases ms with
 | nil=>exact Zdq h hx hy s b str flat base
 | cons i r=>simp only[XO];rw[Zdq (Zlp h (i :: r)) hx hy]
theorem Zhs (h:QE U hp hp') {x y:AV} (hx:InU U x) (hy:InU U y) (s b base:Nat):appT hp s b base x y=appT hp' s b base x y:=by
 unfold appT;rw[Zjm h hy];congr 2
 funext q
 rw[Zjn h hx]
theorem Zgf (h:QE U hp hp') {x:AV} (hx:∀ id∈Zi x,U id):Uw hp x=Uw hp' x:=by
 cases x<;>simp only[Uw]
 case own id=>rw[h.same id (hx id (by simp[Zi]))]
theorem ZbX (h:QE U hp hp'):∀ {xs:List AV},(∀ id∈xs.flatMap Zi,U id)→Yi hp xs=Yi hp' xs
 | [],_=>rfl
 | x :: xs,hx=>by
  simp only[Yi];rw[Zgf h fun id aa=>hx id (by simp only[Kv,Kd];exact .inl aa),ZbX h (xs:=xs) fun id aa=>hx id (by simp only[Kv,Kd];exact .inr aa)]
theorem ZmM (h:QE U hp hp') {n:Nat} {x:AV} (hx:∀ id∈Zi x,U id):Zb9 hp n x=Zb9 hp' n x:=by
 cases x<;>simp only[Zb9]
 case own id=>rw[h.same id (hx id (by simp[Zi]))]
theorem ZbY (h:QE U hp hp') {n:Nat}:∀ {xs:List AV},(∀ id∈xs.flatMap Zi,U id)→YB hp n xs=YB hp' n xs
 | [],_=>rfl
 | x :: xs,hx=>by
  simp only[YB];rw[ZmM h fun id aa=>hx id (by simp only[Kv,Kd];exact .inl aa),ZbY h (xs:=xs) fun id aa=>hx id (by simp only[Kv,Kd];exact .inr aa)]
theorem Zds (h:QE U hp hp') {n s:Nat}:∀ {xs:List AV},(∀ x∈xs,InU U x)→Vv hp n s xs=Vv hp' n s xs
 | [],_=>rfl
 | x :: xs,hx=>by
  cases x<;>simp only[Vv]
  rename_i cs;rw[ZbY h (hx (.agg cs) (by simp)),Zds h (xs:=xs) fun x hm=>hx x (Km _ hm)]
theorem Zlq (h:QE U hp hp') {base s n:Nat} {xs:List AV} (hx:∀ x∈xs,InU U x):buildT hp base s n xs=buildT hp' base s n xs:=by
 unfold buildT;rw[Zds h hx]
theorem Zlr (h:QE U hp hp') {x:AV} (hx:InU U x) (slc:List (Option Nat)) (s base:Nat) (vs:List AV) (hv:∀ id∈vs.flatMap Zi,U id):Uo hp slc s base vs x=Uo hp' slc s base vs x:=by
 cases x<;>simp only[Uo]
 case ptr id off=>rw[h.same id (hx id (by simp[Zo,Zs,Zi]))]
 case prow id sz i off=>
  rw[h.same id (hx id (by simp[Zo,Zs,Zi]))];unfold UX;rw[ZbX h hv];have ht:∀ n,YB hp n vs=YB hp' n vs:=fun n=>ZbY h hv;simp only[ht]
theorem Zht {x:AV} (hx:InU U x):∀ id∈x.cells.flatMap Zi,U id:=by
 intro id aa;refine hx id ?_;cases x<;>simp only[AV.cells] at aa<;>first
  | (simp[Zi] at aa;done)
  | (obtain⟨c,hc,ab⟩:=Kk.1 aa;obtain⟨y,_,rfl⟩:=K4.1 hc;simp[Zi] at ab;done)
  | (simpa [Zo,Zs,Zi] using aa)
theorem Zou (h:QE U hp hp') {x:AV} (hx:InU U x):give hp x=give hp' x:=by
 cases x with
 | agg cs=>simp only[give];rw[ZbX h hx]
 | own id=>exact Zgf h (x:=.own id) hx
 | _=>rfl
theorem Zdt (h:QE U hp hp'):∀ {xs:List AV},(∀ x∈xs,InU U x)→YT hp xs=YT hp' xs
 | [],_=>rfl
 | x :: xs,hx=>by
  simp only[YT];rw[Zou h (hx x (by simp)),Zdt h (xs:=xs) fun y hy=>hx y (Km _ hy)]
theorem ZaQ (h:QE U hp hp') {x:AV} (hx:∀ id∈Zi x,U id):Zdn hp x=Zdn hp' x:=by
 cases x<;>simp only[Zdn]
 case own id=>rw[h.same id (hx id (by simp[Zi]))]
 case ownv id off n=>rw[h.same id (hx id (by simp[Zi]))]
theorem Zhu (h:QE U hp hp'):∀ {xs:List AV},(∀ id∈xs.flatMap Zi,U id)→Qa (Zdn hp) xs=Qa (Zdn hp') xs
 | [],_=>rfl
 | x :: xs,hx=>by
  simp only[Qa];rw[ZaQ h fun id aa=>hx id (by simp only[Kv,Kd];exact .inl aa),Zhu h (xs:=xs) fun id aa=>hx id (by simp only[Kv,Kd];exact .inr aa)]
theorem Zkp (h:QE U hp hp') {x:AV} (hx:InU U x):toD hp x=toD hp' x:=by
 cases x with
 | agg cs=>simp only[toD];rw[Zhu h hx]
 | own id=>exact ZaQ h (x:=.own id) hx
 | ownv id off n=>exact ZaQ h (x:=.ownv id off n) hx
 | _=>rfl
theorem Zov (h:QE U hp hp') (m:Bool) {x:AV} (hx:InU U x):JB hp m x=JB hp' m x:=by
 cases x with
 | own id=>
  simp only[JB];cases m
  ·simp only[ZaX];rw[ZaQ h (x:=.own id) hx]
  ·rfl
 | agg cs=>
  simp only[JB];cases m
  ·simp only[ZaY];rw[Zkp h hx]
  ·rfl
 | ownv id off n=>simp only[JB];rw[Zkp h hx]
 | _=>rfl
theorem Zhv (h:QE U hp hp') (m:Nat→Bool):∀ {xs:List AV} (i:Nat),(∀ x∈xs,InU U x)→args hp m i xs=args hp' m i xs
 | [],i,_=>rfl
 | x :: xs,i,hx=>by
  simp only[args];rw[Zov h (m i) (hx x (by simp)),Zhv h m (xs:=xs) (i+1) fun y hy=>hx y (Km _ hy)]
theorem Zs8 {m:Bool} {x y:AV} (hx:InU U x) (h:JB hp m x=some y):InU U y:=by
 unfold JB at h;split at h
 ·cases h;exact hx
 ·cases h;exact hx
 ·cases h;exact hx
 ·cases h;exact hx
 ·cases h;exact hx
 ·rename_i id;cases m
  ·simp only[ZaX,asD] at h;obtain⟨d,_,h⟩:=Za h;cases h;exact fun id aa=>by simp[Zo,Zs,Zi] at aa
  ·simp only[ZaX] at h;cases h;exact hx
 ·cases m
  ·simp only[Zcb] at h;cases h;exact fun id aa=>by simp[Zo,Zs,Zi] at aa
  ·simp only[Zcb] at h;cases h;exact hx
 ·cases h;exact hx
 ·cases m
  ·simp only[ZaY,asD] at h;obtain⟨d,_,h⟩:=Za h;cases h;exact fun id aa=>by simp[Zo,Zs,Zi] at aa
  ·simp only[ZaY] at h;split at h
   ·cases h
   ·cases h;exact hx
 ·obtain⟨d,_,h⟩:=Za h;cases h;exact fun id aa=>by simp[Zo,Zs,Zi] at aa
theorem ZpG {m:Nat→Bool}:∀ {xs ys:List AV} (i:Nat),(∀ x∈xs,InU U x)→args hp m i xs=some ys→∀ y∈ys,InU U y
 | [],ys,i,_,h=>by simp only[args] at h;cases h;simp
 | x :: xs,ys,i,hx,h=>by
  simp only[args] at h;obtain⟨y,h1,h⟩:=Za h;obtain⟨aa,h2,h⟩:=Za h;cases h;intro z hz;rcases Kf.1 hz with rfl | hz
  ·exact Zs8 (hx x (by simp)) h1
  ·exact ZpG (i+1) (fun y hy=>hx y (by simp[hy])) h2 z hz
theorem JF (h:QE U hp hp'):∀ (n:Nat) (todo aa:List Nat),(∀ i∈todo,U i)→Qy hp n todo aa=Qy hp' n todo aa
 | 0,todo,aa,_=>by simp only[Qy]
 | n+1,[],aa,_=>by simp only[Qy]
 | n+1,id :: todo,aa,ht=>by
  simp only[Qy];rw[JF h n todo aa fun i hi=>ht i (by simp[hi])];rw[← h.same id (ht id (by simp))];cases hl:lkp hp id with
  | none=>simp only[V7];rw[JF h n todo aa fun i hi=>ht i (by simp[hi])]
  | some o=>
   simp only[V7];rw[JF h n (todo++VX o) (aa++[id]) fun i hi=>by
    rcases Kd.1 hi with hi | hi
    ·exact ht i (by simp[hi])
    ·exact h.closed id o (ht id (by simp)) hl i hi]
theorem Zey (h:QE U hp hp'):∀ (n:Nat) (todo aa:List Nat),(∀ i∈todo,U i)→(∀ i∈aa,U i)→∀ i∈Qy hp n todo aa,U i
 | 0,todo,aa,_,ha=>by simp only[Qy];exact ha
 | n+1,[],aa,_,ha=>by simp only[Qy];exact ha
 | n+1,id :: todo,aa,ht,ha=>by
  simp only[Qy];split
  ·exact Zey h n todo aa (fun i hi=>ht i (by simp[hi])) ha
  ·cases hl:lkp hp id with
   | none=>simp only[V7];exact Zey h n todo aa (fun i hi=>ht i (by simp[hi])) ha
   | some o=>
    simp only[V7];refine Zey h n (todo++VX o) (aa++[id]) (fun i hi=>?_) fun i hi=>?_
    ·rcases Kd.1 hi with hi | hi
     ·exact ht i (by simp[hi])
     ·exact h.closed id o (ht id (by simp)) hl i hi
    ·rcases Kd.1 hi with hi | hi
     ·exact ha i hi
     ·simp at hi;subst hi;exact ht i (by simp)
theorem Zhw (h:QE U hp hp'):∀ {ids:List Nat},(∀ i∈ids,U i)→J1 hp ids=J1 hp' ids
 | [],_=>rfl
 | i :: ids,hi=>by simp only[J1,h.same i (hi i (by simp)),Zhw h (ids:=ids) fun j hj=>hi j (Km _ hj)]
theorem Zhx (h:QE U hp hp') {base:Nat} {ids aa:List Nat} (hi:∀ i∈ids,U i) (hl:∀ i∈aa,U i) (keep:Bool) (r:AV) (out:List Zk):W7 keep hp base ids aa r out=W7 keep hp' base ids aa r out:=by
 unfold W7;have:Zfz hp ids out keep=Zfz hp' ids out keep:=by
  cases keep
  ·exact List.filter_congr fun i hm=>by rw[h.same i (hi i hm)]
  ·rfl
 have h2:∀ {l:List Nat},(∀ i∈l,U i)→(l.any fun i=>U3 (lkp hp i))=l.any fun i=>U3 (lkp hp' i):=by
  intro l
  induction l with
  | nil=>intro _;rfl
  | cons i l ih=>intro hl;simp only[List.any_cons];rw[h.same i (hl i (by simp)),ih fun k hk=>hl k (by simp[hk])]
 rw[this,h2 hl]
theorem Zrz (x:AV):∀ i∈JC x,i∈Zi x:=by
 intro i hi;cases x<;>simp only[JC,Zi] at hi ⊢ <;> first | exact hi | (simp at hi)
theorem Zqn (x:AV):∀ i∈ZaM x,i∈Zo x:=by
 intro i hi;cases x with
 | agg cs=>
  obtain⟨c,hc,hi⟩:=Kk.1 hi;exact Kk.2 ⟨c,hc,Zrz c i hi⟩
 | own id=>exact hi
 | ownv id a b=>exact hi
 | _=>simp[ZaM,JC] at hi
theorem Zkq:∀ {xs ys:List AV},(∀ x∈xs,InU U x)→∀ i∈Xw xs ys,U i
 | [],ys,_,i,hi=>by cases ys<;>simp[Xw] at hi
 | x :: xs,[],_,i,hi=>by simp[Xw] at hi
 | x :: xs,y :: ys,hx,i,hi=>by
  have ih:=Zkq (ys:=ys) fun z hz=>hx z (Km _ hz);cases y<;>simp only[Xw] at hi<;>first | exact ih i hi | skip
  rcases Kd.1 hi with hi | hi
  ·exact hx x (by simp) i (Zqn x i hi)
  ·exact ih i hi
theorem Zdu (h:QE U hp hp') (rs:List Nat):∀ {ids:List Nat},(∀ i∈ids,U i)→UD hp rs ids=UD hp' rs ids
 | [],_=>rfl
 | i :: ids,hi=>by
  have ih:=Zdu h rs (ids:=ids) fun k hk=>hi k (by simp[hk]);simp only[UD,K9] at ih ⊢;rw[ih,h.1 i (hi i (by simp))]
theorem ZmN (h:QE U hp hp') (C:Orc) (m:Nat→Bool) (base f:Nat) {ab:List AV} (hx:∀ x∈ab,InU U x):JJ C m hp base f ab=JJ C m hp' base f ab:=by
 unfold JJ;rw[← Zhv h m 0 hx];cases ha:args hp m 0 ab with
 | none=>rfl
 | some as=>
  simp only[bnd];have ad:=ZpG 0 hx ha;have ht:∀ i∈as.flatMap Zo,U i:=fun i hi=>by
   obtain⟨y,hy,hi⟩:=Kk.1 hi;exact ad y hy i hi
  have hf:QZ hp=QZ hp':=rfl;rw[hf,← JF h (QZ hp') (as.flatMap Zo) [] ht];have aa:=Zey h (QZ hp') (as.flatMap Zo) [] ht (by simp);unfold ZaZ;rw[Zhw h aa,Zdu h _ aa];congr 1
  congr 1
  funext q
  exact Zhx h aa (Zkq hx) (m 99) q.1 q.2
theorem clo_in {f:Nat} {aa:List AV} (h:InU U (.clo f aa)):∀ x∈aa,x.atom=true→InU U x:=by
 intro x hx ha id ab;refine h id (Kk.2 ⟨x,hx,?_⟩);cases x<;>first | exact ab | (simp[AV.atom] at ha)
end
end Go.Abs
