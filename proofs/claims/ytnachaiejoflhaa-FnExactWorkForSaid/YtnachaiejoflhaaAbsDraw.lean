/- Own text. -/
import Derived.Test.YtnachaiejoflhaaAbsSound2
set_option linter.unusedVariables false
set_option linter.unusedSimpArgs false
namespace Go.Abs
open Go
theorem Je {sl sl' : Sl}:∀ {xs:List Opd},(∀ x∈xs,evO sl x=evO sl' x)→evL sl xs=evL sl' xs
 | [],_=>rfl
 | x :: xs,h=>by simp only[evL,h x (by simp),Je (xs:=xs) fun y hy=>h y (Km _ hy)]
theorem Zij {sl sl' : Sl}:∀ {xs:List (Nat×Nat×Opd)},(∀ x∈xs.map (fun q=>q.2.2),evO sl x=evO sl' x)→evP sl xs=evP sl' xs
 | [],_=>rfl
 | (a,b,x) :: xs,h=>by simp only[evP,h x (by simp),Zij (xs:=xs) fun y hy=>h y (by simp only[Ks,Ke];exact .inr hy)]
theorem Zbi {sl sl' : Sl} {x:Option Opd} (h:∀ y∈ZmF x,evO sl y=evO sl' y):evM sl x=evM sl' x:=by
 cases x with
 | none=>rfl
 | some y=>simp only[evM,h y (by simp[ZmF])]
theorem Qt (C:Orc) (M:Zf) {sl sl' : Sl} (hp:Hp) (base:Nat):∀ {c:COp},(∀ x∈Zq c,evO sl x=evO sl' x)→vop C M sl hp base c=vop C M sl' hp base c:=by
 intro c h;cases c<;>simp only[Zq] at h<;>simp only[vop]
 case move x=>rw[h x (by simp)]
 case assign s x=>rw[h x (by simp)]
 case pick c a b=>rw[h c (by simp),h a (by simp),h b (by simp)]
 case box x=>rw[h x (by simp)]
 case build zs ps=>rw[Zij h]
 case buildSl s xs=>rw[Je h]
 case load g s a=>rw[h a (by simp)]
 case store slc s a x=>rw[h a (by simp),h x (by simp)]
 case nilCheck x=>rw[h x (by simp)]
 case bin op eq x y=>rw[h x (by simp),h y (by simp)]
 case un op x=>rw[h x (by simp)]
 case eqA neg n x y=>rw[h x (by simp),h y (by simp)]
 case convI k x=>rw[h x (by simp)]
 case convS x=>rw[h x (by simp)]
 case fn f cs=>rw[Je h]
 case make s b z l c=>rw[h l (by simp),h c (by simp)]
 case slice s x lo hi=>rw[h x (by simp),Zbi fun y hy=>h y (by simp[hy]),Zbi (x:=hi) fun y hy=>h y (by simp[hy])]
 case sliceS x lo hi=>rw[h x (by simp),Zbi fun y hy=>h y (by simp[hy]),Zbi (x:=hi) fun y hy=>h y (by simp[hy])]
 case slice0 x hi mx=>rw[h x (by simp),h hi (by simp),h mx (by simp)]
 case shift off x=>rw[h x (by simp)]
 case part g s off x=>rw[h x (by simp)]
 case iaS s x i=>rw[h x (by simp),h i (by simp)]
 case iaA len s x i=>rw[h x (by simp),h i (by simp)]
 case ixS x i=>rw[h x (by simp),h i (by simp)]
 case ixA g s len x i=>rw[h x (by simp),h i (by simp)]
 case nth i x=>rw[h x (by simp)]
 case len x=>rw[h x (by simp)]
 case lenS x=>rw[h x (by simp)]
 case append s b str flat x y=>rw[h x (by simp),h y (by simp)]
 case min x y=>rw[h x (by simp),h y (by simp)]
 case max x y=>rw[h x (by simp),h y (by simp)]
 case slice3 s x lo hi mx=>rw[h x (by simp),h lo (by simp),h hi (by simp),h mx (by simp)]
 case clear s z x=>rw[h x (by simp)]
 case buildT s n xs=>rw[Je h]
 case appT s b f x y=>rw[h x (by simp),h y (by simp)]
 case asgT s n x=>rw[h x (by simp)]
 case makeT s b n z l c=>rw[h l (by simp),h c (by simp)]
 case call f as=>rw[h f (by simp),Je (xs:=as) fun y hy=>h y (Km _ hy)]
section
variable {U:Nat→Prop} {hp hp' : Hp}
structure Qw (U:Nat→Prop) (hp hp' : Hp):Prop where
 same:∀ id,U id→lkp hp id=lkp hp' id
 closed:∀ id o,U id→lkp hp id=some o→∀ i∈Vh o,U i
def InU (U:Nat→Prop) (x:AV):Prop:=∀ id∈Zl x,U id
theorem ZkX (h:Qw U hp hp') {x:AV} (hx:InU U x) (g:Bool) (s:Nat):YD hp g s x=YD hp' g s x:=by
 cases x<;>simp only[YD]
 case ptr id off=>rw[h.same id (hx id (by simp[Zl,Zn,Ze]))]
 case prow id sz i off=>rw[h.same id (hx id (by simp[Zl,Zn,Ze]))]
theorem ZdL (h:Qw U hp hp') {x:AV} (hx:InU U x) (sz n:Nat):Z8 hp sz n x=Z8 hp' sz n x:=by
 cases x<;>simp only[Z8]
 case d x=>cases x<;>rfl
 case own id=>rw[h.same id (hx id (by simp[Zl,Zn,Ze]))]
 case ownv id off m=>rw[h.same id (hx id (by simp[Zl,Zn,Ze]))]
theorem ZjA (h:Qw U hp hp') {x:AV} (hx:InU U x) (s:Nat) (lo hi:Option AV):XE hp s lo hi x=XE hp' s lo hi x:=by
 cases x<;>simp only[XE]
 case d x=>cases x<;>rfl
 case own id=>rw[h.same id (hx id (by simp[Zl,Zn,Ze]))]
 case ownv id off m=>rw[h.same id (hx id (by simp[Zl,Zn,Ze]))]
theorem Zck (h:Qw U hp hp') {x:AV} (hx:InU U x):UY hp x=UY hp' x:=by
 cases x<;>simp only[UY]
 case d x=>cases x<;>rfl
 case own id=>rw[h.same id (hx id (by simp[Zl,Zn,Ze]))]
theorem ZjB (h:Qw U hp hp') {x:AV} (hx:InU U x) (s:Nat) (z:D):JU hp s z x=JU hp' s z x:=by
 cases x<;>simp only[JU]
 case ownv id off m=>rw[h.same id (hx id (by simp[Zl,Zn,Ze]))]
theorem ZkY (h:Qw U hp hp') {x:AV} (hx:InU U x) (flat:Bool):ZaS hp flat x=ZaS hp' flat x:=by
 cases x<;>simp only[ZaS]
 case d x=>cases x<;>rfl
 case own id=>rw[h.same id (hx id (by simp[Zl,Zn,Ze]))]
 case ownv id off m=>rw[h.same id (hx id (by simp[Zl,Zn,Ze]))]
theorem ZkZ (h:Qw U hp hp') {x:AV} (hx:InU U x) (sz b base:Nat) (aa:List Nat) (ys:List D) (ex:Bool):ZbX hp sz b base aa ys ex x=ZbX hp' sz b base aa ys ex x:=by
 cases x<;>simp only[ZbX]
 case own id=>rw[h.same id (hx id (by simp[Zl,Zn,Ze]))]
 case ownv id off m=>rw[h.same id (hx id (by simp[Zl,Zn,Ze]))]
theorem ZhV (h:Qw U hp hp') {x:AV} (hx:InU U x):JZ hp x=JZ hp' x:=by
 cases x<;>simp only[JZ]
 case own id=>rw[h.same id (hx id (by simp[Zl,Zn,Ze]))]
theorem ZhW (h:Qw U hp hp') {x:AV} (hx:InU U x) (s b base id n:Nat) (ys:List D):UF hp s b base id n ys x=UF hp' s b base id n ys x:=by
 cases x<;>simp only[UF]
 case own k=>rw[h.same k (hx k (by simp[Zl,Zn,Ze]))]
theorem ZbM (h:Qw U hp hp') {x y:AV} (hx:InU U x) (hy:InU U y) (s b:Nat) (str flat:Bool) (base:Nat):Vq hp s b str flat base x y=Vq hp' s b str flat base x y:=by
 unfold Vq;rw[ZkY h hy];congr 1
 funext q
 rw[ZkZ h hx]
theorem ZcQ (h:Qw U hp hp') {x:AV} (hx:InU U x):Xt hp x=Xt hp' x:=by
 cases x<;>simp only[Xt]
 case own id=>rw[h.same id (hx id (by simp[Zl,Zn,Ze]))]
theorem ZjC (h:Qw U hp hp') (ids:List Nat):Qw U (meltIn hp ids) (meltIn hp' ids):=by
 refine⟨fun id aa=>by rw[YQ,YQ,h.same id aa],fun id o aa hl=>?_⟩;rw[YQ] at hl;cases hl0:lkp hp id with
 | none=>rw[hl0] at hl;cases hl
 | some o0=>
  rw[hl0] at hl;simp only[KN,Option.some.injEq] at hl;subst hl;have:=h.closed id o0 aa hl0;split
  ·cases o0 with
   | tree s n xs l=>cases l<;>exact this
   | _=>exact this
  ·exact this
theorem ZhX (h:Qw U hp hp') {x y:AV} (hx:InU U x) (hy:InU U y) (s b:Nat) (str flat:Bool) (base:Nat) (ms:List Nat):Yf hp s b str flat base x y ms=Yf hp' s b str flat base x y ms:=by
 cases ms with
 | nil=>exact ZbM h hx hy s b str flat base
 | cons i r=>simp only[Yf];rw[ZbM (ZjC h (i :: r)) hx hy]
theorem Zma (h:Qw U hp hp') {x y:AV} (hx:InU U x) (hy:InU U y) (s b base:Nat):appT hp s b base x y=appT hp' s b base x y:=by
 unfold appT;rw[ZhV h hy];congr 2
 funext q
 rw[ZhW h hx]
theorem Zeo (h:Qw U hp hp') {x:AV} (hx:∀ id∈Ze x,U id):Wx hp x=Wx hp' x:=by
 cases x<;>simp only[Wx]
 case own id=>rw[h.same id (hx id (by simp[Ze]))]
theorem ZaH (h:Qw U hp hp'):∀ {xs:List AV},(∀ id∈xs.flatMap Ze,U id)→XH hp xs=XH hp' xs
 | [],_=>rfl
 | x :: xs,hx=>by
  simp only[XH];rw[Zeo h fun id aa=>hx id (by simp only[Kq,Kd];exact .inl aa),ZaH h (xs:=xs) fun id aa=>hx id (by simp only[Kq,Kd];exact .inr aa)]
theorem Zk0 (h:Qw U hp hp') {n:Nat} {x:AV} (hx:∀ id∈Ze x,U id):ZaR hp n x=ZaR hp' n x:=by
 cases x<;>simp only[ZaR]
 case own id=>rw[h.same id (hx id (by simp[Ze]))]
theorem ZaI (h:Qw U hp hp') {n:Nat}:∀ {xs:List AV},(∀ id∈xs.flatMap Ze,U id)→X2 hp n xs=X2 hp' n xs
 | [],_=>rfl
 | x :: xs,hx=>by
  simp only[X2];rw[Zk0 h fun id aa=>hx id (by simp only[Kq,Kd];exact .inl aa),ZaI h (xs:=xs) fun id aa=>hx id (by simp only[Kq,Kd];exact .inr aa)]
theorem ZbN (h:Qw U hp hp') {n s:Nat}:∀ {xs:List AV},(∀ x∈xs,InU U x)→YH hp n s xs=YH hp' n s xs
 | [],_=>rfl
 | x :: xs,hx=>by
  cases x<;>simp only[YH]
  rename_i cs;rw[ZaI h (hx (.agg cs) (by simp)),ZbN h (xs:=xs) fun x hm=>hx x (Km _ hm)]
theorem ZjD (h:Qw U hp hp') {base s n:Nat} {xs:List AV} (hx:∀ x∈xs,InU U x):buildT hp base s n xs=buildT hp' base s n xs:=by
 unfold buildT;rw[ZbN h hx]
theorem ZjE (h:Qw U hp hp') {x:AV} (hx:InU U x) (slc:List (Option Nat)) (s base:Nat) (vs:List AV) (hv:∀ id∈vs.flatMap Ze,U id):Wr hp slc s base vs x=Wr hp' slc s base vs x:=by
 cases x<;>simp only[Wr]
 case ptr id off=>rw[h.same id (hx id (by simp[Zl,Zn,Ze]))]
 case prow id sz i off=>
  rw[h.same id (hx id (by simp[Zl,Zn,Ze]))];unfold Ub;rw[ZaH h hv];have ht:∀ n,X2 hp n vs=X2 hp' n vs:=fun n=>ZaI h hv;simp only[ht]
theorem Zgd {x:AV} (hx:InU U x):∀ id∈x.cells.flatMap Ze,U id:=by
 intro id aa;refine hx id ?_;cases x<;>simp only[AV.cells] at aa<;>first
  | (simp[Ze] at aa;done)
  | (obtain⟨c,hc,ab⟩:=Kj.1 aa;obtain⟨y,_,rfl⟩:=KZ.1 hc;simp[Ze] at ab;done)
  | (simpa [Zl,Zn,Ze] using aa)
theorem Zmb (h:Qw U hp hp') {x:AV} (hx:InU U x):give hp x=give hp' x:=by
 cases x with
 | agg cs=>simp only[give];rw[ZaH h hx]
 | own id=>exact Zeo h (x:=.own id) hx
 | _=>rfl
theorem ZbO (h:Qw U hp hp'):∀ {xs:List AV},(∀ x∈xs,InU U x)→Yd hp xs=Yd hp' xs
 | [],_=>rfl
 | x :: xs,hx=>by
  simp only[Yd];rw[Zmb h (hx x (by simp)),ZbO h (xs:=xs) fun y hy=>hx y (Km _ hy)]
theorem JO (h:Qw U hp hp') {x:AV} (hx:∀ id∈Ze x,U id):ZbD hp x=ZbD hp' x:=by
 cases x<;>simp only[ZbD]
 case own id=>rw[h.same id (hx id (by simp[Ze]))]
 case ownv id off n=>rw[h.same id (hx id (by simp[Ze]))]
theorem Zge (h:Qw U hp hp'):∀ {xs:List AV},(∀ id∈xs.flatMap Ze,U id)→Z5 (ZbD hp) xs=Z5 (ZbD hp') xs
 | [],_=>rfl
 | x :: xs,hx=>by
  simp only[Z5];rw[JO h fun id aa=>hx id (by simp only[Kq,Kd];exact .inl aa),Zge h (xs:=xs) fun id aa=>hx id (by simp only[Kq,Kd];exact .inr aa)]
theorem Zik (h:Qw U hp hp') {x:AV} (hx:InU U x):toD hp x=toD hp' x:=by
 cases x with
 | agg cs=>simp only[toD];rw[Zge h hx]
 | own id=>exact JO h (x:=.own id) hx
 | ownv id off n=>exact JO h (x:=.ownv id off n) hx
 | _=>rfl
theorem Zmc (h:Qw U hp hp') (m:Bool) {x:AV} (hx:InU U x):Ut hp m x=Ut hp' m x:=by
 cases x with
 | own id=>
  simp only[Ut];cases m
  ·simp only[JV];rw[JO h (x:=.own id) hx]
  ·rfl
 | agg cs=>
  simp only[Ut];cases m
  ·simp only[JW];rw[Zik h hx]
  ·rfl
 | ownv id off n=>simp only[Ut];rw[Zik h hx]
 | _=>rfl
theorem Zgf (h:Qw U hp hp') (m:Nat→Bool):∀ {xs:List AV} (i:Nat),(∀ x∈xs,InU U x)→args hp m i xs=args hp' m i xs
 | [],i,_=>rfl
 | x :: xs,i,hx=>by
  simp only[args];rw[Zmc h (m i) (hx x (by simp)),Zgf h m (xs:=xs) (i+1) fun y hy=>hx y (Km _ hy)]
theorem ZqI {m:Bool} {x y:AV} (hx:InU U x) (h:Ut hp m x=some y):InU U y:=by
 unfold Ut at h;split at h
 ·cases h;exact hx
 ·cases h;exact hx
 ·cases h;exact hx
 ·cases h;exact hx
 ·cases h;exact hx
 ·rename_i id;cases m
  ·simp only[JV,asD] at h;obtain⟨d,_,h⟩:=Za h;cases h;exact fun id aa=>by simp[Zl,Zn,Ze] at aa
  ·simp only[JV] at h;cases h;exact hx
 ·cases m
  ·simp only[ZaT] at h;cases h;exact fun id aa=>by simp[Zl,Zn,Ze] at aa
  ·simp only[ZaT] at h;cases h;exact hx
 ·cases h;exact hx
 ·cases m
  ·simp only[JW,asD] at h;obtain⟨d,_,h⟩:=Za h;cases h;exact fun id aa=>by simp[Zl,Zn,Ze] at aa
  ·simp only[JW] at h;split at h
   ·cases h
   ·cases h;exact hx
 ·obtain⟨d,_,h⟩:=Za h;cases h;exact fun id aa=>by simp[Zl,Zn,Ze] at aa
theorem Znd {m:Nat→Bool}:∀ {xs ys:List AV} (i:Nat),(∀ x∈xs,InU U x)→args hp m i xs=some ys→∀ y∈ys,InU U y
 | [],ys,i,_,h=>by simp only[args] at h;cases h;simp
 | x :: xs,ys,i,hx,h=>by
  simp only[args] at h;obtain⟨y,h1,h⟩:=Za h;obtain⟨aa,h2,h⟩:=Za h;cases h;intro z hz;rcases Ke.1 hz with rfl | hz
  ·exact ZqI (hx x (by simp)) h1
  ·exact Znd (i+1) (fun y hy=>hx y (by simp[hy])) h2 z hz
theorem UB (h:Qw U hp hp'):∀ (n:Nat) (todo aa:List Nat),(∀ i∈todo,U i)→Qr hp n todo aa=Qr hp' n todo aa
 | 0,todo,aa,_=>by simp only[Qr]
 | n+1,[],aa,_=>by simp only[Qr]
 | n+1,id :: todo,aa,ht=>by
  simp only[Qr];rw[UB h n todo aa fun i hi=>ht i (by simp[hi])];rw[← h.same id (ht id (by simp))];cases hl:lkp hp id with
  | none=>simp only[Vr];rw[UB h n todo aa fun i hi=>ht i (by simp[hi])]
  | some o=>
   simp only[Vr];rw[UB h n (todo++Vh o) (aa++[id]) fun i hi=>by
    rcases Kd.1 hi with hi | hi
    ·exact ht i (by simp[hi])
    ·exact h.closed id o (ht id (by simp)) hl i hi]
theorem ZcR (h:Qw U hp hp'):∀ (n:Nat) (todo aa:List Nat),(∀ i∈todo,U i)→(∀ i∈aa,U i)→∀ i∈Qr hp n todo aa,U i
 | 0,todo,aa,_,ha=>by simp only[Qr];exact ha
 | n+1,[],aa,_,ha=>by simp only[Qr];exact ha
 | n+1,id :: todo,aa,ht,ha=>by
  simp only[Qr];split
  ·exact ZcR h n todo aa (fun i hi=>ht i (by simp[hi])) ha
  ·cases hl:lkp hp id with
   | none=>simp only[Vr];exact ZcR h n todo aa (fun i hi=>ht i (by simp[hi])) ha
   | some o=>
    simp only[Vr];refine ZcR h n (todo++Vh o) (aa++[id]) (fun i hi=>?_) fun i hi=>?_
    ·rcases Kd.1 hi with hi | hi
     ·exact ht i (by simp[hi])
     ·exact h.closed id o (ht id (by simp)) hl i hi
    ·rcases Kd.1 hi with hi | hi
     ·exact ha i hi
     ·simp at hi;subst hi;exact ht i (by simp)
theorem Zgg (h:Qw U hp hp'):∀ {ids:List Nat},(∀ i∈ids,U i)→U1 hp ids=U1 hp' ids
 | [],_=>rfl
 | i :: ids,hi=>by simp only[U1,h.same i (hi i (by simp)),Zgg h (ids:=ids) fun j hj=>hi j (Km _ hj)]
theorem Zgh (h:Qw U hp hp') {base:Nat} {ids aa:List Nat} (hi:∀ i∈ids,U i) (hl:∀ i∈aa,U i) (keep:Bool) (r:AV) (out:List Zh):Wj keep hp base ids aa r out=Wj keep hp' base ids aa r out:=by
 unfold Wj;have:ZdU hp ids out keep=ZdU hp' ids out keep:=by
  cases keep
  ·exact List.filter_congr fun i hm=>by rw[h.same i (hi i hm)]
  ·rfl
 have h2:∀ {l:List Nat},(∀ i∈l,U i)→(l.any fun i=>Uh (lkp hp i))=l.any fun i=>Uh (lkp hp' i):=by
  intro l
  induction l with
  | nil=>intro _;rfl
  | cons i l ih=>intro hl;simp only[List.any_cons];rw[h.same i (hl i (by simp)),ih fun k hk=>hl k (by simp[hk])]
 rw[this,h2 hl]
theorem Zpp (x:AV):∀ i∈Uy x,i∈Ze x:=by
 intro i hi;cases x<;>simp only[Uy,Ze] at hi ⊢ <;> first | exact hi | (simp at hi)
theorem ZnW (x:AV):∀ i∈JK x,i∈Zl x:=by
 intro i hi;cases x with
 | agg cs=>
  obtain⟨c,hc,hi⟩:=Kj.1 hi;exact Kj.2 ⟨c,hc,Zpp c i hi⟩
 | own id=>exact hi
 | ownv id a b=>exact hi
 | _=>simp[JK,Uy] at hi
theorem Zil:∀ {xs ys:List AV},(∀ x∈xs,InU U x)→∀ i∈Q8 xs ys,U i
 | [],ys,_,i,hi=>by cases ys<;>simp[Q8] at hi
 | x :: xs,[],_,i,hi=>by simp[Q8] at hi
 | x :: xs,y :: ys,hx,i,hi=>by
  have ih:=Zil (ys:=ys) fun z hz=>hx z (Km _ hz);cases y<;>simp only[Q8] at hi<;>first | exact ih i hi | skip
  rcases Kd.1 hi with hi | hi
  ·exact hx x (by simp) i (ZnW x i hi)
  ·exact ih i hi
theorem ZbP (h:Qw U hp hp') (rs:List Nat):∀ {ids:List Nat},(∀ i∈ids,U i)→WI hp rs ids=WI hp' rs ids
 | [],_=>rfl
 | i :: ids,hi=>by
  have ih:=ZbP h rs (ids:=ids) fun k hk=>hi k (by simp[hk]);simp only[WI,K8] at ih ⊢;rw[ih,h.1 i (hi i (by simp))]
theorem Zk1 (h:Qw U hp hp') (C:Orc) (m:Nat→Bool) (base f:Nat) {ab:List AV} (hx:∀ x∈ab,InU U x):UE C m hp base f ab=UE C m hp' base f ab:=by
 unfold UE;rw[← Zgf h m 0 hx];cases ha:args hp m 0 ab with
 | none=>rfl
 | some as=>
  simp only[bnd];have ad:=Znd 0 hx ha;have ht:∀ i∈as.flatMap Zl,U i:=fun i hi=>by
   obtain⟨y,hy,hi⟩:=Kj.1 hi;exact ad y hy i hi
  have hf:QN hp=QN hp':=rfl;rw[hf,← UB h (QN hp') (as.flatMap Zl) [] ht];have aa:=ZcR h (QN hp') (as.flatMap Zl) [] ht (by simp);unfold JX;rw[Zgg h aa,ZbP h _ aa];congr 1
  congr 1
  funext q
  exact Zgh h aa (Zil hx) (m 99) q.1 q.2
theorem clo_in {f:Nat} {aa:List AV} (h:InU U (.clo f aa)):∀ x∈aa,x.atom=true→InU U x:=by
 intro x hx ha id ab;refine h id (Kj.2 ⟨x,hx,?_⟩);cases x<;>first | exact ab | (simp[AV.atom] at ha)
end
end Go.Abs
