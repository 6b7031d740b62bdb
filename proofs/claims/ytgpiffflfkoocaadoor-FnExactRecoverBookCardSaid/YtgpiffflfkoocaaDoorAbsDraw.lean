/- Own text. -/
import Derived.Test.YtgpiffflfkoocaaDoorAbsSound2
set_option linter.unusedVariables false
set_option linter.unusedSimpArgs false
namespace Go.Abs
open Go
theorem Zak {sl sl' : Sl}:∀ {xs:List Opd},(∀ x∈xs,evO sl x=evO sl' x)→evL sl xs=evL sl' xs
 | [],_=>rfl
 | x :: xs,h=>by simp only[evL,h x (by simp),Zak (xs:=xs) fun y hy=>h y (Kr _ hy)]
theorem Zj3 {sl sl' : Sl}:∀ {xs:List (Nat×Nat×Opd)},(∀ x∈xs.map (fun q=>q.2.2),evO sl x=evO sl' x)→evP sl xs=evP sl' xs
 | [],_=>rfl
 | (a,b,x) :: xs,h=>by simp only[evP,h x (by simp),Zj3 (xs:=xs) fun y hy=>h y (by simp only[Ki,Ke];exact .inr hy)]
theorem Zcr {sl sl' : Sl} {x:Option Opd} (h:∀ y∈Zni x,evO sl y=evO sl' y):evM sl x=evM sl' x:=by
 cases x with
 | none=>rfl
 | some y=>simp only[evM,h y (by simp[Zni])]
theorem QO (C:Orc) (M:Zh) {sl sl' : Sl} (hp:Hp) (base:Nat):∀ {c:COp},(∀ x∈Zr c,evO sl x=evO sl' x)→vop C M sl hp base c=vop C M sl' hp base c:=by
 intro c h;cases c<;>simp only[Zr] at h<;>simp only[vop]
 case move x=>rw[h x (by simp)]
 case assign s x=>rw[h x (by simp)]
 case pick c a b=>rw[h c (by simp),h a (by simp),h b (by simp)]
 case box x=>rw[h x (by simp)]
 case build zs ps=>rw[Zj3 h]
 case buildSl s xs=>rw[Zak h]
 case load g s a=>rw[h a (by simp)]
 case store slc s a x=>rw[h a (by simp),h x (by simp)]
 case nilCheck x=>rw[h x (by simp)]
 case bin op eq x y=>rw[h x (by simp),h y (by simp)]
 case un op x=>rw[h x (by simp)]
 case eqA neg n x y=>rw[h x (by simp),h y (by simp)]
 case convI k x=>rw[h x (by simp)]
 case convS x=>rw[h x (by simp)]
 case fn f cs=>rw[Zak h]
 case make s b z l c=>rw[h l (by simp),h c (by simp)]
 case slice s x lo hi=>rw[h x (by simp),Zcr fun y hy=>h y (by simp[hy]),Zcr (x:=hi) fun y hy=>h y (by simp[hy])]
 case sliceS x lo hi=>rw[h x (by simp),Zcr fun y hy=>h y (by simp[hy]),Zcr (x:=hi) fun y hy=>h y (by simp[hy])]
 case slice0 x hi mx=>rw[h x (by simp),h hi (by simp),h mx (by simp)]
 case shift off x=>rw[h x (by simp)]
 case part g s off x=>rw[h x (by simp)]
 case iaS s x i=>rw[h x (by simp),h i (by simp)]
 case iaA len s x i=>rw[h x (by simp),h i (by simp)]
 case ixS x i=>rw[h x (by simp),h i (by simp)]
 case ixA g s len x i=>rw[h x (by simp),h i (by simp)]
 case nth i x=>rw[h x (by simp)]
 case len x=>rw[h x (by simp)]
 case lenS x=>rw[h x (by simp)]
 case append s b str flat x y=>rw[h x (by simp),h y (by simp)]
 case min x y=>rw[h x (by simp),h y (by simp)]
 case max x y=>rw[h x (by simp),h y (by simp)]
 case slice3 s x lo hi mx=>rw[h x (by simp),h lo (by simp),h hi (by simp),h mx (by simp)]
 case clear s z x=>rw[h x (by simp)]
 case buildT s n xs=>rw[Zak h]
 case appT s b f x y=>rw[h x (by simp),h y (by simp)]
 case asgT s n x=>rw[h x (by simp)]
 case makeT s b n z l c=>rw[h l (by simp),h c (by simp)]
 case call f as=>rw[h f (by simp),Zak (xs:=as) fun y hy=>h y (Kr _ hy)]
section
variable {U:Nat→Prop} {hp hp' : Hp}
structure QR (U:Nat→Prop) (hp hp' : Hp):Prop where
 same:∀ id,U id→lkp hp id=lkp hp' id
 closed:∀ id o,U id→lkp hp id=some o→∀ i∈Wf o,U i
def InU (U:Nat→Prop) (x:AV):Prop:=∀ id∈Zl x,U id
theorem Zmz (h:QR U hp hp') {x:AV} (hx:InU U x) (g:Bool) (s:Nat):VA hp g s x=VA hp' g s x:=by
 cases x<;>simp only[VA]
 case ptr id off=>rw[h.same id (hx id (by simp[Zl,Zo,Zg]))]
 case prow id sz i off=>rw[h.same id (hx id (by simp[Zl,Zo,Zg]))]
theorem Zfn (h:QR U hp hp') {x:AV} (hx:InU U x) (sz n:Nat):Qh hp sz n x=Qh hp' sz n x:=by
 cases x<;>simp only[Qh]
 case d x=>cases x<;>rfl
 case own id=>rw[h.same id (hx id (by simp[Zl,Zo,Zg]))]
 case ownv id off m=>rw[h.same id (hx id (by simp[Zl,Zo,Zg]))]
theorem Zlg (h:QR U hp hp') {x:AV} (hx:InU U x) (s:Nat) (lo hi:Option AV):Yz hp s lo hi x=Yz hp' s lo hi x:=by
 cases x<;>simp only[Yz]
 case d x=>cases x<;>rfl
 case own id=>rw[h.same id (hx id (by simp[Zl,Zo,Zg]))]
 case ownv id off m=>rw[h.same id (hx id (by simp[Zl,Zo,Zg]))]
theorem Zdy (h:QR U hp hp') {x:AV} (hx:InU U x):JQ hp x=JQ hp' x:=by
 cases x<;>simp only[JQ]
 case d x=>cases x<;>rfl
 case own id=>rw[h.same id (hx id (by simp[Zl,Zo,Zg]))]
theorem Zlh (h:QR U hp hp') {x:AV} (hx:InU U x) (s:Nat) (z:D):ZaS hp s z x=ZaS hp' s z x:=by
 cases x<;>simp only[ZaS]
 case ownv id off m=>rw[h.same id (hx id (by simp[Zl,Zo,Zg]))]
theorem ZmA (h:QR U hp hp') {x:AV} (hx:InU U x) (flat:Bool):ZbV hp flat x=ZbV hp' flat x:=by
 cases x<;>simp only[ZbV]
 case d x=>cases x<;>rfl
 case own id=>rw[h.same id (hx id (by simp[Zl,Zo,Zg]))]
 case ownv id off m=>rw[h.same id (hx id (by simp[Zl,Zo,Zg]))]
theorem ZmB (h:QR U hp hp') {x:AV} (hx:InU U x) (sz b base:Nat) (aa:List Nat) (ys:List D) (ex:Bool):Zc7 hp sz b base aa ys ex x=Zc7 hp' sz b base aa ys ex x:=by
 cases x<;>simp only[Zc7]
 case own id=>rw[h.same id (hx id (by simp[Zl,Zo,Zg]))]
 case ownv id off m=>rw[h.same id (hx id (by simp[Zl,Zo,Zg]))]
theorem Zjz (h:QR U hp hp') {x:AV} (hx:InU U x):JE hp x=JE hp' x:=by
 cases x<;>simp only[JE]
 case own id=>rw[h.same id (hx id (by simp[Zl,Zo,Zg]))]
theorem ZjA (h:QR U hp hp') {x:AV} (hx:InU U x) (s b base id n:Nat) (ys:List D):UD hp s b base id n ys x=UD hp' s b base id n ys x:=by
 cases x<;>simp only[UD]
 case own k=>rw[h.same k (hx k (by simp[Zl,Zo,Zg]))]
theorem ZcV (h:QR U hp hp') {x y:AV} (hx:InU U x) (hy:InU U y) (s b:Nat) (str flat:Bool) (base:Nat):Wm hp s b str flat base x y=Wm hp' s b str flat base x y:=by
 unfold Wm;rw[ZmA h hy];congr 1
 funext q
 rw[ZmB h hx]
theorem Zee (h:QR U hp hp') {x:AV} (hx:InU U x):Xe hp x=Xe hp' x:=by
 cases x<;>simp only[Xe]
 case own id=>rw[h.same id (hx id (by simp[Zl,Zo,Zg]))]
theorem Zli (h:QR U hp hp') (ids:List Nat):QR U (meltIn hp ids) (meltIn hp' ids):=by
 refine⟨fun id aa=>by rw[VV,VV,h.same id aa],fun id o aa hl=>?_⟩;rw[VV] at hl;cases hl0:lkp hp id with
 | none=>rw[hl0] at hl;cases hl
 | some o0=>
  rw[hl0] at hl;simp only[KP,Option.some.injEq] at hl;subst hl;have:=h.closed id o0 aa hl0;split
  ·cases o0 with
   | tree s n xs l=>cases l<;>exact this
   | _=>exact this
  ·exact this
theorem ZcW (h:QR U hp hp') {x y:AV} (hx:InU U x) (hy:InU U y) (s b:Nat) (str flat:Bool) (base:Nat) (ms:List Nat):Yk hp s b str flat base x y ms=Yk hp' s b str flat base x y ms:=by
 cases ms with
 | nil=>exact ZcV h hx hy s b str flat base
 | cons i r=>simp only[Yk];rw[ZcV (Zli h (i :: r)) hx hy]
theorem ZhV (h:QR U hp hp') {x y:AV} (hx:InU U x) (hy:InU U y) (s b base:Nat):appT hp s b base x y=appT hp' s b base x y:=by
 unfold appT;rw[Zjz h hy];congr 2
 funext q
 rw[ZjA h hx]
theorem Zf8 (h:QR U hp hp') {x:AV} (hx:∀ id∈Zg x,U id):Um hp x=Um hp' x:=by
 cases x<;>simp only[Um]
 case own id=>rw[h.same id (hx id (by simp[Zg]))]
theorem ZbK (h:QR U hp hp'):∀ {xs:List AV},(∀ id∈xs.flatMap Zg,U id)→YE hp xs=YE hp' xs
 | [],_=>rfl
 | x :: xs,hx=>by
  simp only[YE];rw[Zf8 h fun id aa=>hx id (by simp only[Kw,Kd];exact .inl aa),ZbK h (xs:=xs) fun id aa=>hx id (by simp only[Kw,Kd];exact .inr aa)]
theorem ZmC (h:QR U hp hp') {n:Nat} {x:AV} (hx:∀ id∈Zg x,U id):ZbU hp n x=ZbU hp' n x:=by
 cases x<;>simp only[ZbU]
 case own id=>rw[h.same id (hx id (by simp[Zg]))]
theorem ZbL (h:QR U hp hp') {n:Nat}:∀ {xs:List AV},(∀ id∈xs.flatMap Zg,U id)→Y1 hp n xs=Y1 hp' n xs
 | [],_=>rfl
 | x :: xs,hx=>by
  simp only[Y1];rw[ZmC h fun id aa=>hx id (by simp only[Kw,Kd];exact .inl aa),ZbL h (xs:=xs) fun id aa=>hx id (by simp only[Kw,Kd];exact .inr aa)]
theorem ZcX (h:QR U hp hp') {n s:Nat}:∀ {xs:List AV},(∀ x∈xs,InU U x)→VH hp n s xs=VH hp' n s xs
 | [],_=>rfl
 | x :: xs,hx=>by
  cases x<;>simp only[VH]
  rename_i cs;rw[ZbL h (hx (.agg cs) (by simp)),ZcX h (xs:=xs) fun x hm=>hx x (Kr _ hm)]
theorem Zlj (h:QR U hp hp') {base s n:Nat} {xs:List AV} (hx:∀ x∈xs,InU U x):buildT hp base s n xs=buildT hp' base s n xs:=by
 unfold buildT;rw[ZcX h hx]
theorem Zlk (h:QR U hp hp') {x:AV} (hx:InU U x) (slc:List (Option Nat)) (s base:Nat) (vs:List AV) (hv:∀ id∈vs.flatMap Zg,U id):Uh hp slc s base vs x=Uh hp' slc s base vs x:=by
 cases x<;>simp only[Uh]
 case ptr id off=>rw[h.same id (hx id (by simp[Zl,Zo,Zg]))]
 case prow id sz i off=>
  rw[h.same id (hx id (by simp[Zl,Zo,Zg]))];unfold Ja;rw[ZbK h hv];have ht:∀ n,Y1 hp n vs=Y1 hp' n vs:=fun n=>ZbL h hv;simp only[ht]
theorem ZhW {x:AV} (hx:InU U x):∀ id∈x.cells.flatMap Zg,U id:=by
 intro id aa;refine hx id ?_;cases x<;>simp only[AV.cells] at aa<;>first
  | (simp[Zg] at aa;done)
  | (obtain⟨c,hc,ab⟩:=Kq.1 aa;obtain⟨y,_,rfl⟩:=Le.1 hc;simp[Zg] at ab;done)
  | (simpa [Zl,Zo,Zg] using aa)
theorem ZnW (h:QR U hp hp') {x:AV} (hx:InU U x):give hp x=give hp' x:=by
 cases x with
 | agg cs=>simp only[give];rw[ZbK h hx]
 | own id=>exact Zf8 h (x:=.own id) hx
 | _=>rfl
theorem ZcY (h:QR U hp hp'):∀ {xs:List AV},(∀ x∈xs,InU U x)→Ve hp xs=Ve hp' xs
 | [],_=>rfl
 | x :: xs,hx=>by
  simp only[Ve];rw[ZnW h (hx x (by simp)),ZcY h (xs:=xs) fun y hy=>hx y (Kr _ hy)]
theorem ZaM (h:QR U hp hp') {x:AV} (hx:∀ id∈Zg x,U id):ZcR hp x=ZcR hp' x:=by
 cases x<;>simp only[ZcR]
 case own id=>rw[h.same id (hx id (by simp[Zg]))]
 case ownv id off n=>rw[h.same id (hx id (by simp[Zg]))]
theorem ZhX (h:QR U hp hp'):∀ {xs:List AV},(∀ id∈xs.flatMap Zg,U id)→Qe (ZcR hp) xs=Qe (ZcR hp') xs
 | [],_=>rfl
 | x :: xs,hx=>by
  simp only[Qe];rw[ZaM h fun id aa=>hx id (by simp only[Kw,Kd];exact .inl aa),ZhX h (xs:=xs) fun id aa=>hx id (by simp only[Kw,Kd];exact .inr aa)]
theorem Zj4 (h:QR U hp hp') {x:AV} (hx:InU U x):toD hp x=toD hp' x:=by
 cases x with
 | agg cs=>simp only[toD];rw[ZhX h hx]
 | own id=>exact ZaM h (x:=.own id) hx
 | ownv id off n=>exact ZaM h (x:=.ownv id off n) hx
 | _=>rfl
theorem ZnX (h:QR U hp hp') (m:Bool) {x:AV} (hx:InU U x):Jt hp m x=Jt hp' m x:=by
 cases x with
 | own id=>
  simp only[Jt];cases m
  ·simp only[ZaT];rw[ZaM h (x:=.own id) hx]
  ·rfl
 | agg cs=>
  simp only[Jt];cases m
  ·simp only[ZaU];rw[Zj4 h hx]
  ·rfl
 | ownv id off n=>simp only[Jt];rw[Zj4 h hx]
 | _=>rfl
theorem ZhY (h:QR U hp hp') (m:Nat→Bool):∀ {xs:List AV} (i:Nat),(∀ x∈xs,InU U x)→args hp m i xs=args hp' m i xs
 | [],i,_=>rfl
 | x :: xs,i,hx=>by
  simp only[args];rw[ZnX h (m i) (hx x (by simp)),ZhY h m (xs:=xs) (i+1) fun y hy=>hx y (Kr _ hy)]
theorem ZsO {m:Bool} {x y:AV} (hx:InU U x) (h:Jt hp m x=some y):InU U y:=by
 unfold Jt at h;split at h
 ·cases h;exact hx
 ·cases h;exact hx
 ·cases h;exact hx
 ·cases h;exact hx
 ·cases h;exact hx
 ·rename_i id;cases m
  ·simp only[ZaT,asD] at h;obtain⟨d,_,h⟩:=Za h;cases h;exact fun id aa=>by simp[Zl,Zo,Zg] at aa
  ·simp only[ZaT] at h;cases h;exact hx
 ·cases m
  ·simp only[ZbW] at h;cases h;exact fun id aa=>by simp[Zl,Zo,Zg] at aa
  ·simp only[ZbW] at h;cases h;exact hx
 ·cases h;exact hx
 ·cases m
  ·simp only[ZaU,asD] at h;obtain⟨d,_,h⟩:=Za h;cases h;exact fun id aa=>by simp[Zl,Zo,Zg] at aa
  ·simp only[ZaU] at h;split at h
   ·cases h
   ·cases h;exact hx
 ·obtain⟨d,_,h⟩:=Za h;cases h;exact fun id aa=>by simp[Zl,Zo,Zg] at aa
theorem Zo9 {m:Nat→Bool}:∀ {xs ys:List AV} (i:Nat),(∀ x∈xs,InU U x)→args hp m i xs=some ys→∀ y∈ys,InU U y
 | [],ys,i,_,h=>by simp only[args] at h;cases h;simp
 | x :: xs,ys,i,hx,h=>by
  simp only[args] at h;obtain⟨y,h1,h⟩:=Za h;obtain⟨aa,h2,h⟩:=Za h;cases h;intro z hz;rcases Ke.1 hz with rfl | hz
  ·exact ZsO (hx x (by simp)) h1
  ·exact Zo9 (i+1) (fun y hy=>hx y (by simp[hy])) h2 z hz
theorem JA (h:QR U hp hp'):∀ (n:Nat) (todo aa:List Nat),(∀ i∈todo,U i)→QF hp n todo aa=QF hp' n todo aa
 | 0,todo,aa,_=>by simp only[QF]
 | n+1,[],aa,_=>by simp only[QF]
 | n+1,id :: todo,aa,ht=>by
  simp only[QF];rw[JA h n todo aa fun i hi=>ht i (by simp[hi])];rw[← h.same id (ht id (by simp))];cases hl:lkp hp id with
  | none=>simp only[Wn];rw[JA h n todo aa fun i hi=>ht i (by simp[hi])]
  | some o=>
   simp only[Wn];rw[JA h n (todo++Wf o) (aa++[id]) fun i hi=>by
    rcases Kd.1 hi with hi | hi
    ·exact ht i (by simp[hi])
    ·exact h.closed id o (ht id (by simp)) hl i hi]
theorem Zef (h:QR U hp hp'):∀ (n:Nat) (todo aa:List Nat),(∀ i∈todo,U i)→(∀ i∈aa,U i)→∀ i∈QF hp n todo aa,U i
 | 0,todo,aa,_,ha=>by simp only[QF];exact ha
 | n+1,[],aa,_,ha=>by simp only[QF];exact ha
 | n+1,id :: todo,aa,ht,ha=>by
  simp only[QF];split
  ·exact Zef h n todo aa (fun i hi=>ht i (by simp[hi])) ha
  ·cases hl:lkp hp id with
   | none=>simp only[Wn];exact Zef h n todo aa (fun i hi=>ht i (by simp[hi])) ha
   | some o=>
    simp only[Wn];refine Zef h n (todo++Wf o) (aa++[id]) (fun i hi=>?_) fun i hi=>?_
    ·rcases Kd.1 hi with hi | hi
     ·exact ht i (by simp[hi])
     ·exact h.closed id o (ht id (by simp)) hl i hi
    ·rcases Kd.1 hi with hi | hi
     ·exact ha i hi
     ·simp at hi;subst hi;exact ht i (by simp)
theorem ZhZ (h:QR U hp hp'):∀ {ids:List Nat},(∀ i∈ids,U i)→JS hp ids=JS hp' ids
 | [],_=>rfl
 | i :: ids,hi=>by simp only[JS,h.same i (hi i (by simp)),ZhZ h (ids:=ids) fun j hj=>hi j (Kr _ hj)]
theorem Zh0 (h:QR U hp hp') {base:Nat} {ids aa:List Nat} (hi:∀ i∈ids,U i) (hl:∀ i∈aa,U i) (keep:Bool) (r:AV) (out:List Zf):W3 keep hp base ids aa r out=W3 keep hp' base ids aa r out:=by
 unfold W3;have:Zfw hp ids out keep=Zfw hp' ids out keep:=by
  cases keep
  ·exact List.filter_congr fun i hm=>by rw[h.same i (hi i hm)]
  ·rfl
 have h2:∀ {l:List Nat},(∀ i∈l,U i)→(l.any fun i=>Jg (lkp hp i))=l.any fun i=>Jg (lkp hp' i):=by
  intro l
  induction l with
  | nil=>intro _;rfl
  | cons i l ih=>intro hl;simp only[List.any_cons];rw[h.same i (hl i (by simp)),ih fun k hk=>hl k (by simp[hk])]
 rw[this,h2 hl]
theorem ZrG (x:AV):∀ i∈Jx x,i∈Zg x:=by
 intro i hi;cases x<;>simp only[Jx,Zg] at hi ⊢ <;> first | exact hi | (simp at hi)
theorem Zp3 (x:AV):∀ i∈ZaJ x,i∈Zl x:=by
 intro i hi;cases x with
 | agg cs=>
  obtain⟨c,hc,hi⟩:=Kq.1 hi;exact Kq.2 ⟨c,hc,ZrG c i hi⟩
 | own id=>exact hi
 | ownv id a b=>exact hi
 | _=>simp[ZaJ,Jx] at hi
theorem Zj5:∀ {xs ys:List AV},(∀ x∈xs,InU U x)→∀ i∈XV xs ys,U i
 | [],ys,_,i,hi=>by cases ys<;>simp[XV] at hi
 | x :: xs,[],_,i,hi=>by simp[XV] at hi
 | x :: xs,y :: ys,hx,i,hi=>by
  have ih:=Zj5 (ys:=ys) fun z hz=>hx z (Kr _ hz);cases y<;>simp only[XV] at hi<;>first | exact ih i hi | skip
  rcases Kd.1 hi with hi | hi
  ·exact hx x (by simp) i (Zp3 x i hi)
  ·exact ih i hi
theorem ZcZ (h:QR U hp hp') (rs:List Nat):∀ {ids:List Nat},(∀ i∈ids,U i)→UC hp rs ids=UC hp' rs ids
 | [],_=>rfl
 | i :: ids,hi=>by
  have ih:=ZcZ h rs (ids:=ids) fun k hk=>hi k (by simp[hk]);simp only[UC,Lr] at ih ⊢;rw[ih,h.1 i (hi i (by simp))]
theorem ZmD (h:QR U hp hp') (C:Orc) (m:Nat→Bool) (base f:Nat) {ab:List AV} (hx:∀ x∈ab,InU U x):JD C m hp base f ab=JD C m hp' base f ab:=by
 unfold JD;rw[← ZhY h m 0 hx];cases ha:args hp m 0 ab with
 | none=>rfl
 | some as=>
  simp only[bnd];have ad:=Zo9 0 hx ha;have ht:∀ i∈as.flatMap Zl,U i:=fun i hi=>by
   obtain⟨y,hy,hi⟩:=Kq.1 hi;exact ad y hy i hi
  have hf:Xd hp=Xd hp':=rfl;rw[hf,← JA h (Xd hp') (as.flatMap Zl) [] ht];have aa:=Zef h (Xd hp') (as.flatMap Zl) [] ht (by simp);unfold ZaV;rw[ZhZ h aa,ZcZ h _ aa];congr 1
  congr 1
  funext q
  exact Zh0 h aa (Zj5 hx) (m 99) q.1 q.2
theorem clo_in {f:Nat} {aa:List AV} (h:InU U (.clo f aa)):∀ x∈aa,x.atom=true→InU U x:=by
 intro x hx ha id ab;refine h id (Kq.2 ⟨x,hx,?_⟩);cases x<;>first | exact ab | (simp[AV.atom] at ha)
end
end Go.Abs
