import Derived.Test.YtfnegoimdljanaaGreatDoorAbsSound3
set_option linter.unusedSimpArgs false
set_option linter.unusedVariables false
namespace Go.Abs
open Go
theorem Zee {sl sl' : Sl}:∀ {xs:List Opd},(∀ x∈xs,evO sl x=evO sl' x)→evL sl xs=evL sl' xs
 | [],_=>rfl
 | x :: xs,h=>by simp only[evL,h x (by simp),Zee (xs:=xs) fun y hy=>h y (Kv _ hy)]
theorem Zss {sl sl' : Sl}:∀ {xs:List (Nat×Nat×Opd)},(∀ x∈xs.map (fun q=>q.2.2),evO sl x=evO sl' x)→evP sl xs=evP sl' xs
 | [],_=>rfl
 | (a,b,x) :: xs,h=>by simp only[evP,h x (by simp),Zss (xs:=xs) fun y hy=>h y (by simp only[Kk,Kd];exact .inr hy)]
theorem Zh4 {sl sl' : Sl} {x:Option Opd} (h:∀ y∈Zod x,evO sl y=evO sl' y):evM sl x=evM sl' x:=by
 cases x with
 | none=>rfl
 | some y=>simp only[evM,h y (by simp[Zod])]
theorem Xi (C:Orc) (M:Zq) {sl sl' : Sl} (hp:Hp) (base:Nat):∀ {c:COp},(∀ x∈ZF c,evO sl x=evO sl' x)→vop C M sl hp base c=vop C M sl' hp base c:=by
 intro c h;cases c<;>simp only[ZF] at h<;>simp only[vop]
 case move x=>rw[h x (by simp)]
 case assign s x=>rw[h x (by simp)]
 case pick c a b=>rw[h c (by simp),h a (by simp),h b (by simp)]
 case box x=>rw[h x (by simp)]
 case build zs ps=>rw[Zss h]
 case buildSl s xs=>rw[Zee h]
 case load g s a=>rw[h a (by simp)]
 case store slc s a x=>rw[h a (by simp),h x (by simp)]
 case nilCheck x=>rw[h x (by simp)]
 case bin op eq x y=>rw[h x (by simp),h y (by simp)]
 case un op x=>rw[h x (by simp)]
 case eqA neg n x y=>rw[h x (by simp),h y (by simp)]
 case convI k x=>rw[h x (by simp)]
 case convS x=>rw[h x (by simp)]
 case fn f cs=>rw[Zee h]
 case make s b z l c=>rw[h l (by simp),h c (by simp)]
 case slice s x lo hi=>rw[h x (by simp),Zh4 fun y hy=>h y (by simp[hy]),Zh4 (x:=hi) fun y hy=>h y (by simp[hy])]
 case sliceS x lo hi=>rw[h x (by simp),Zh4 fun y hy=>h y (by simp[hy]),Zh4 (x:=hi) fun y hy=>h y (by simp[hy])]
 case slice0 x hi mx=>rw[h x (by simp),h hi (by simp),h mx (by simp)]
 case shift off x=>rw[h x (by simp)]
 case part g s off x=>rw[h x (by simp)]
 case iaS s x i=>rw[h x (by simp),h i (by simp)]
 case iaA len s x i=>rw[h x (by simp),h i (by simp)]
 case ixS x i=>rw[h x (by simp),h i (by simp)]
 case ixA g s len x i=>rw[h x (by simp),h i (by simp)]
 case nth i x=>rw[h x (by simp)]
 case len x=>rw[h x (by simp)]
 case lenS x=>rw[h x (by simp)]
 case append s b str flat x y=>rw[h x (by simp),h y (by simp)]
 case min x y=>rw[h x (by simp),h y (by simp)]
 case max x y=>rw[h x (by simp),h y (by simp)]
 case slice3 s x lo hi mx=>rw[h x (by simp),h lo (by simp),h hi (by simp),h mx (by simp)]
 case clear s z x=>rw[h x (by simp)]
 case buildT s n xs=>rw[Zee h]
 case appT s b f x y=>rw[h x (by simp),h y (by simp)]
 case asgT s n x=>rw[h x (by simp)]
 case makeT s b n z l c=>rw[h l (by simp),h c (by simp)]
 case call f as1=>rw[h f (by simp),Zee (xs:=as1) fun y hy=>h y (Kv _ hy)]
section
variable {U:Nat→Prop} {hp hp' : Hp}
structure Xl (U:Nat→Prop) (hp hp' : Hp):Prop where
 same:∀ id,U id→lkp hp id=lkp hp' id
 closed:∀ id o,U id→lkp hp id=some o→∀ i∈UI o,U i
def InU (U:Nat→Prop) (x:AV):Prop:=∀ id∈Zx x,U id
theorem Zva (h:Xl U hp hp') {x:AV} (hx:InU U x) (g:Bool) (s:Nat):WJ hp g s x=WJ hp' g s x:=by
 cases x<;>simp only[WJ]
 case ptr id off=>rw[h.same id (hx id (by simp[Zx,ZA,Zn]))]
 case prow id sz i off=>rw[h.same id (hx id (by simp[Zx,ZA,Zn]))]
theorem Zl7 (h:Xl U hp hp') {x:AV} (hx:InU U x) (sz n:Nat):QG hp sz n x=QG hp' sz n x:=by
 cases x<;>simp only[QG]
 case d x=>cases x<;>rfl
 case own id=>rw[h.same id (hx id (by simp[Zx,ZA,Zn]))]
 case ownv id off m=>rw[h.same id (hx id (by simp[Zx,ZA,Zn]))]
theorem Zt1 (h:Xl U hp hp') {x:AV} (hx:InU U x) (s:Nat) (lo hi:Option AV):Vy hp s lo hi x=Vy hp' s lo hi x:=by
 cases x<;>simp only[Vy]
 case d x=>cases x<;>rfl
 case own id=>rw[h.same id (hx id (by simp[Zx,ZA,Zn]))]
 case ownv id off m=>rw[h.same id (hx id (by simp[Zx,ZA,Zn]))]
theorem Zjy (h:Xl U hp hp') {x:AV} (hx:InU U x):Zdq hp x=Zdq hp' x:=by
 cases x<;>simp only[Zdq]
 case d x=>cases x<;>rfl
 case own id=>rw[h.same id (hx id (by simp[Zx,ZA,Zn]))]
theorem Zt2 (h:Xl U hp hp') {x:AV} (hx:InU U x) (s:Nat) (z:D):ZeS hp s z x=ZeS hp' s z x:=by
 cases x<;>simp only[ZeS]
 case ownv id off m=>rw[h.same id (hx id (by simp[Zx,ZA,Zn]))]
theorem Zvb (h:Xl U hp hp') {x:AV} (hx:InU U x) (flat:Bool):ZgK hp flat x=ZgK hp' flat x:=by
 cases x<;>simp only[ZgK]
 case d x=>cases x<;>rfl
 case own id=>rw[h.same id (hx id (by simp[Zx,ZA,Zn]))]
 case ownv id off m=>rw[h.same id (hx id (by simp[Zx,ZA,Zn]))]
theorem Zvc (h:Xl U hp hp') {x:AV} (hx:InU U x) (sz b base:Nat) (aa:List Nat) (ys:List D) (ex:Bool):ZiU hp sz b base aa ys ex x=ZiU hp' sz b base aa ys ex x:=by
 cases x<;>simp only[ZiU]
 case own id=>rw[h.same id (hx id (by simp[Zx,ZA,Zn]))]
 case ownv id off m=>rw[h.same id (hx id (by simp[Zx,ZA,Zn]))]
theorem ZrL (h:Xl U hp hp') {x:AV} (hx:InU U x):ZcY hp x=ZcY hp' x:=by
 cases x<;>simp only[ZcY]
 case own id=>rw[h.same id (hx id (by simp[Zx,ZA,Zn]))]
theorem ZrM (h:Xl U hp hp') {x:AV} (hx:InU U x) (s b base id n:Nat) (ys:List D):Za4 hp s b base id n ys x=Za4 hp' s b base id n ys x:=by
 cases x<;>simp only[Za4]
 case own k=>rw[h.same k (hx k (by simp[Zx,ZA,Zn]))]
theorem ZiJ (h:Xl U hp hp') {x y:AV} (hx:InU U x) (hy:InU U y) (s b:Nat) (str flat:Bool) (base:Nat):UO hp s b str flat base x y=UO hp' s b str flat base x y:=by
 unfold UO;rw[Zvb h hy];congr 1
 funext q
 rw[Zvc h hx]
theorem Zkj (h:Xl U hp hp') {x:AV} (hx:InU U x):XO hp x=XO hp' x:=by
 cases x<;>simp only[XO]
 case own id=>rw[h.same id (hx id (by simp[Zx,ZA,Zn]))]
theorem Zt3 (h:Xl U hp hp') (ids:List Nat):Xl U (meltIn hp ids) (meltIn hp' ids):=by
 refine⟨fun id aa=>by rw[Ui,Ui,h.same id aa],fun id o aa hl=>?_⟩;rw[Ui] at hl;cases hl0:lkp hp id with
 | none=>rw[hl0] at hl;cases hl
 | some o0=>
  rw[hl0] at hl;simp only[K4,Option.some.injEq] at hl;subst hl;have:=h.closed id o0 aa hl0;split
  ·cases o0 with
   | tree s n xs l=>cases l<;>exact this
   | _=>exact this
  ·exact this
theorem ZiK (h:Xl U hp hp') {x y:AV} (hx:InU U x) (hy:InU U y) (s b:Nat) (str flat:Bool) (base:Nat) (ms:List Nat):Y8 hp s b str flat base x y ms=Y8 hp' s b str flat base x y ms:=by
 cases ms with
 | nil=>exact ZiJ h hx hy s b str flat base
 | cons i r=>simp only[Y8];rw[ZiJ (Zt3 h (i :: r)) hx hy]
theorem Zpf (h:Xl U hp hp') {x y:AV} (hx:InU U x) (hy:InU U y) (s b base:Nat):appT hp s b base x y=appT hp' s b base x y:=by
 unfold appT;rw[ZrL h hy];congr 2
 funext q
 rw[ZrM h hx]
theorem Znk (h:Xl U hp hp') {x:AV} (hx:∀ id∈Zn x,U id):ZaV hp x=ZaV hp' x:=by
 cases x<;>simp only[ZaV]
 case own id=>rw[h.same id (hx id (by simp[Zn]))]
theorem Zgy (h:Xl U hp hp'):∀ {xs:List AV},(∀ id∈xs.flatMap Zn,U id)→VG hp xs=VG hp' xs
 | [],_=>rfl
 | x :: xs,hx=>by
  simp only[VG];rw[Znk h fun id aa=>hx id (by simp only[KQ,Kh];exact .inl aa),Zgy h (xs:=xs) fun id aa=>hx id (by simp only[KQ,Kh];exact .inr aa)]
theorem Zvd (h:Xl U hp hp') {n:Nat} {x:AV} (hx:∀ id∈Zn x,U id):ZgJ hp n x=ZgJ hp' n x:=by
 cases x<;>simp only[ZgJ]
 case own id=>rw[h.same id (hx id (by simp[Zn]))]
theorem ZcS (h:Xl U hp hp') {n:Nat}:∀ {xs:List AV},(∀ id∈xs.flatMap Zn,U id)→VH hp n xs=VH hp' n xs
 | [],_=>rfl
 | x :: xs,hx=>by
  simp only[VH];rw[Zvd h fun id aa=>hx id (by simp only[KQ,Kh];exact .inl aa),ZcS h (xs:=xs) fun id aa=>hx id (by simp only[KQ,Kh];exact .inr aa)]
theorem Zdo (h:Xl U hp hp') {n s:Nat}:∀ {xs:List AV},(∀ x∈xs,InU U x)→Y7 hp n s xs=Y7 hp' n s xs
 | [],_=>rfl
 | x :: xs,hx=>by
  cases x<;>simp only[Y7]
  case agg cs=>rw[ZcS h (hx (.agg cs) (by simp)),Zdo h (xs:=xs) fun x hm=>hx x (Kv _ hm)]
  case own id=>rw[ZcS h (xs:=[.own id]) (fun i hi=>hx (.own id) (by simp) i (by simpa [Zx,ZA,Zn] using hi)),Zdo h (xs:=xs) fun x hm=>hx x (Kv _ hm)]
theorem Zt4 (h:Xl U hp hp') {base s n:Nat} {xs:List AV} (hx:∀ x∈xs,InU U x):buildT hp base s n xs=buildT hp' base s n xs:=by
 unfold buildT;rw[Zdo h hx]
theorem Zt5 (h:Xl U hp hp') {x:AV} (hx:InU U x) (slc:List (Option Nat)) (s base:Nat) (vs:List AV) (hv:∀ id∈vs.flatMap Zn,U id):Zaz hp slc s base vs x=Zaz hp' slc s base vs x:=by
 cases x<;>simp only[Zaz]
 case ptr id off=>rw[h.same id (hx id (by simp[Zx,ZA,Zn]))]
 case prow id sz i off=>
  rw[h.same id (hx id (by simp[Zx,ZA,Zn]))];unfold ZbG;rw[Zgy h hv];have ht:∀ n,VH hp n vs=VH hp' n vs:=fun n=>ZcS h hv;simp only[ht]
theorem Zpg {x:AV} (hx:InU U x):∀ id∈x.cells.flatMap Zn,U id:=by
 intro id aa;refine hx id ?_;cases x<;>simp only[AV.cells] at aa<;>first
  | (simp[Zn] at aa;done)
  | (obtain⟨c,hc,ab⟩:=Kz.1 aa;obtain⟨y,_,rfl⟩:=Lk.1 hc;simp[Zn] at ab;done)
  | (simpa [Zx,ZA,Zn] using aa)
theorem Zw0 (h:Xl U hp hp') {x:AV} (hx:InU U x):give hp x=give hp' x:=by
 cases x with
 | agg cs=>simp only[give];rw[Zgy h hx]
 | own id=>exact Znk h (x:=.own id) hx
 | _=>rfl
theorem ZiL (h:Xl U hp hp'):∀ {xs:List AV},(∀ x∈xs,InU U x)→Wk hp xs=Wk hp' xs
 | [],_=>rfl
 | x :: xs,hx=>by
  simp only[Wk];rw[Zw0 h (hx x (by simp)),ZiL h (xs:=xs) fun y hy=>hx y (Kv _ hy)]
theorem ZeI (h:Xl U hp hp') {x:AV} (hx:∀ id∈Zn x,U id):ZiF hp x=ZiF hp' x:=by
 cases x<;>simp only[ZiF]
 case own id=>rw[h.same id (hx id (by simp[Zn]))]
 case ownv id off n=>rw[h.same id (hx id (by simp[Zn]))]
theorem Zph (h:Xl U hp hp'):∀ {xs:List AV},(∀ id∈xs.flatMap Zn,U id)→QF (ZiF hp) xs=QF (ZiF hp') xs
 | [],_=>rfl
 | x :: xs,hx=>by
  simp only[QF];rw[ZeI h fun id aa=>hx id (by simp only[KQ,Kh];exact .inl aa),Zph h (xs:=xs) fun id aa=>hx id (by simp only[KQ,Kh];exact .inr aa)]
theorem Zst (h:Xl U hp hp') {x:AV} (hx:InU U x):toD hp x=toD hp' x:=by
 cases x with
 | agg cs=>simp only[toD];rw[Zph h hx]
 | own id=>exact ZeI h (x:=.own id) hx
 | ownv id off n=>exact ZeI h (x:=.ownv id off n) hx
 | _=>rfl
theorem Zw1 (h:Xl U hp hp') (m:Bool) {x:AV} (hx:InU U x):ZcN hp m x=ZcN hp' m x:=by
 cases x with
 | own id=>
  simp only[ZcN];cases m
  ·simp only[ZeT];rw[ZeI h (x:=.own id) hx]
  ·rfl
 | agg cs=>
  simp only[ZcN];cases m
  ·simp only[ZeU];rw[Zst h hx]
  ·rfl
 | ownv id off n=>simp only[ZcN];rw[Zst h hx]
 | _=>rfl
theorem Zpi (h:Xl U hp hp') (m:Nat→Bool):∀ {xs:List AV} (i:Nat),(∀ x∈xs,InU U x)→args hp m i xs=args hp' m i xs
 | [],i,_=>rfl
 | x :: xs,i,hx=>by
  simp only[args];rw[Zw1 h (m i) (hx x (by simp)),Zpi h m (xs:=xs) (i+1) fun y hy=>hx y (Kv _ hy)]
theorem ZCn {m:Bool} {x y:AV} (hx:InU U x) (h:ZcN hp m x=some y):InU U y:=by
 unfold ZcN at h;split at h
 ·cases h;exact hx
 ·cases h;exact hx
 ·cases h;exact hx
 ·cases h;exact hx
 ·cases h;exact hx
 ·rename_i id;cases m
  ·simp only[ZeT,asD] at h;obtain⟨d,_,h⟩:=Za h;cases h;exact fun id aa=>by simp[Zx,ZA,Zn] at aa
  ·simp only[ZeT] at h;cases h;exact hx
 ·cases m
  ·simp only[ZgL] at h;cases h;exact fun id aa=>by simp[Zx,ZA,Zn] at aa
  ·simp only[ZgL] at h;cases h;exact hx
 ·cases h;exact hx
 ·cases m
  ·simp only[ZeU,asD] at h;obtain⟨d,_,h⟩:=Za h;cases h;exact fun id aa=>by simp[Zx,ZA,Zn] at aa
  ·simp only[ZeU] at h;split at h
   ·cases h
   ·cases h;exact hx
 ·obtain⟨d,_,h⟩:=Za h;cases h;exact fun id aa=>by simp[Zx,ZA,Zn] at aa
theorem Zyv {m:Nat→Bool}:∀ {xs ys:List AV} (i:Nat),(∀ x∈xs,InU U x)→args hp m i xs=some ys→∀ y∈ys,InU U y
 | [],ys,i,_,h=>by simp only[args] at h;cases h;simp
 | x :: xs,ys,i,hx,h=>by
  simp only[args] at h;obtain⟨y,h1,h⟩:=Za h;obtain⟨aa,h2,h⟩:=Za h;cases h;intro z hz;rcases Kd.1 hz with rfl | hz
  ·exact ZCn (hx x (by simp)) h1
  ·exact Zyv (i+1) (fun y hy=>hx y (by simp[hy])) h2 z hz
theorem ZcT (h:Xl U hp hp'):∀ (n:Nat) (todo aa:List Nat),(∀ i∈todo,U i)→Q6 hp n todo aa=Q6 hp' n todo aa
 | 0,todo,aa,_=>by simp only[Q6]
 | n+1,[],aa,_=>by simp only[Q6]
 | n+1,id :: todo,aa,ht=>by
  simp only[Q6];rw[ZcT h n todo aa fun i hi=>ht i (by simp[hi])];rw[← h.same id (ht id (by simp))];cases hl:lkp hp id with
  | none=>simp only[UP];rw[ZcT h n todo aa fun i hi=>ht i (by simp[hi])]
  | some o=>
   simp only[UP];rw[ZcT h n (todo++UI o) (aa++[id]) fun i hi=>by
    rcases Kh.1 hi with hi | hi
    ·exact ht i (by simp[hi])
    ·exact h.closed id o (ht id (by simp)) hl i hi]
theorem Zkk (h:Xl U hp hp'):∀ (n:Nat) (todo aa:List Nat),(∀ i∈todo,U i)→(∀ i∈aa,U i)→∀ i∈Q6 hp n todo aa,U i
 | 0,todo,aa,_,ha=>by simp only[Q6];exact ha
 | n+1,[],aa,_,ha=>by simp only[Q6];exact ha
 | n+1,id :: todo,aa,ht,ha=>by
  simp only[Q6];split
  ·exact Zkk h n todo aa (fun i hi=>ht i (by simp[hi])) ha
  ·cases hl:lkp hp id with
   | none=>simp only[UP];exact Zkk h n todo aa (fun i hi=>ht i (by simp[hi])) ha
   | some o=>
    simp only[UP];refine Zkk h n (todo++UI o) (aa++[id]) (fun i hi=>?_) fun i hi=>?_
    ·rcases Kh.1 hi with hi | hi
     ·exact ht i (by simp[hi])
     ·exact h.closed id o (ht id (by simp)) hl i hi
    ·rcases Kh.1 hi with hi | hi
     ·exact ha i hi
     ·simp at hi;subst hi;exact ht i (by simp)
theorem Zpj (h:Xl U hp hp'):∀ {ids:List Nat},(∀ i∈ids,U i)→Zdr hp ids=Zdr hp' ids
 | [],_=>rfl
 | i :: ids,hi=>by simp only[Zdr,h.same i (hi i (by simp)),Zpj h (ids:=ids) fun j hj=>hi j (Kv _ hj)]
theorem Zpk (h:Xl U hp hp') {base:Nat} {ids aa:List Nat} (hi:∀ i∈ids,U i) (hl:∀ i∈aa,U i) (keep:Bool) (r:AV) (out:List Zk):Zam keep hp base ids aa r out=Zam keep hp' base ids aa r out:=by
 unfold Zam;have:ZjH hp ids out keep=ZjH hp' ids out keep:=by
  cases keep
  ·exact List.filter_congr fun i hm=>by rw[h.same i (hi i hm)]
  ·rfl
 have h2:∀ {l:List Nat},(∀ i∈l,U i)→(l.any fun i=>ZbM (lkp hp i))=l.any fun i=>ZbM (lkp hp' i):=by
  intro l
  induction l with
  | nil=>intro _;rfl
  | cons i l ih=>intro hl;simp only[List.any_cons];rw[h.same i (hl i (by simp)),ih fun k hk=>hl k (by simp[hk])]
 rw[this,h2 hl]
theorem ZAP (x:AV):∀ i∈ZcV x,i∈Zn x:=by
 intro i hi;cases x<;>simp only[ZcV,Zn] at hi ⊢ <;> first | exact hi | (simp at hi)
theorem Zzl (x:AV):∀ i∈ZeQ x,i∈Zx x:=by
 intro i hi;cases x with
 | agg cs=>
  obtain⟨c,hc,hi⟩:=Kz.1 hi;exact Kz.2 ⟨c,hc,ZAP c i hi⟩
 | own id=>exact hi
 | ownv id a b=>exact hi
 | _=>simp[ZeQ,ZcV] at hi
theorem Zsu:∀ {xs ys:List AV},(∀ x∈xs,InU U x)→∀ i∈Yx xs ys,U i
 | [],ys,_,i,hi=>by cases ys<;>simp[Yx] at hi
 | x :: xs,[],_,i,hi=>by simp[Yx] at hi
 | x :: xs,y :: ys,hx,i,hi=>by
  have ih:=Zsu (ys:=ys) fun z hz=>hx z (Kv _ hz);cases y<;>simp only[Yx] at hi<;>first | exact ih i hi | skip
  rcases Kh.1 hi with hi | hi
  ·exact hx x (by simp) i (Zzl x i hi)
  ·exact ih i hi
theorem ZiM (h:Xl U hp hp') (rs:List Nat):∀ {ids:List Nat},(∀ i∈ids,U i)→Za3 hp rs ids=Za3 hp' rs ids
 | [],_=>rfl
 | i :: ids,hi=>by
  have ih:=ZiM h rs (ids:=ids) fun k hk=>hi k (by simp[hk]);simp only[Za3,LC] at ih ⊢;rw[ih,h.1 i (hi i (by simp))]
theorem Zve (h:Xl U hp hp') (C:Orc) (m:Nat→Bool) (base f:Nat) {ab:List AV} (hx:∀ x∈ab,InU U x):ZcX C m hp base f ab=ZcX C m hp' base f ab:=by
 unfold ZcX;rw[← Zpi h m 0 hx];cases ha:args hp m 0 ab with
 | none=>rfl
 | some as1=>
  simp only[bnd];have ad:=Zyv 0 hx ha;have ht:∀ i∈as1.flatMap Zx,U i:=fun i hi=>by
   obtain⟨y,hy,hi⟩:=Kz.1 hi;exact ad y hy i hi
  have hf:XN hp=XN hp':=rfl;rw[hf,← ZcT h (XN hp') (as1.flatMap Zx) [] ht];have aa:=Zkk h (XN hp') (as1.flatMap Zx) [] ht (by simp);unfold ZeV;rw[Zpj h aa,ZiM h _ aa];congr 1
  congr 1
  funext q
  exact Zpk h aa (Zsu hx) (m 99) q.1 q.2
end
end Go.Abs
namespace Go.Abs
open Go
section
variable {U:Nat→Prop} {hp hp' : Hp}
def Zkl (U:Nat→Prop) (x:AV):Prop:=InU U x∧∀ f caps,x=.clo f caps→∀ c∈caps,InU U c
theorem Zh5 {sl:Sl}:∀ {xs:List Opd} {v:AV},v∈evL sl xs→∃ x∈xs,v=evO sl x
 | [],v,h=>by simp[evL] at h
 | x :: xs,v,h=>by
  simp only[evL] at h;rcases Kd.1 h with rfl | h
  ·exact⟨x,by simp,rfl⟩
  ·obtain⟨y,h1,h2⟩:=Zh5 h;exact⟨y,Kv _ h1,h2⟩
theorem JC (h:Xl U hp hp') (C:Orc) (M:Zq) {sl:Sl} (base:Nat) {c:COp} (hx:∀ x∈ZF c,Zkl U (evO sl x)):vop C M sl hp base c=vop C M sl hp' base c:=by
 cases c<;>simp only[ZF] at hx<;>simp only[vop]
 case buildSl s xs=>
  cases hv:evL sl xs with
  | nil=>rfl
  | cons v vs=>
   simp only[buildSl];rw[ZiL h];intro y hy;rw[← hv] at hy;obtain⟨z,h1,rfl⟩:=Zh5 hy;exact(hx z h1).1
 case load g s a=>rw[Zva h (hx a (by simp)).1]
 case store slc s a x=>rw[Zt5 h (hx a (by simp)).1 _ _ _ _ (Zpg (hx x (by simp)).1)]
 case slice s x lo hi=>rw[Zt1 h (hx x (by simp)).1]
 case slice0 x hi mx=>unfold slice0;rw[Zjy h (hx x (by simp)).1]
 case slice3 s x lo hi mx=>unfold slice3;rw[Zjy h (hx x (by simp)).1]
 case clear s z x=>rw[Zt2 h (hx x (by simp)).1]
 case iaS s x i=>
  congr 1
  funext n
  simp only[ZiV];rw[Zl7 h (hx x (by simp)).1]
 case len x=>rw[Zjy h (hx x (by simp)).1]
 case append s b str flat x y=>
  simp only[ZvL];rw[Zkj h (hx x (by simp)).1,Zkj h (hx y (by simp)).1];generalize XO hp' (evO sl x)=mx;generalize XO hp' (evO sl y)=my;cases mx with
  | nil=>simp only[Zdt];rw[ZiK h (hx x (by simp)).1 (hx y (by simp)).1]
  | cons i r=>
   cases my with
   | nil=>simp only[Zdt];rw[ZiK h (hx x (by simp)).1 (hx y (by simp)).1]
   | cons j t=>simp only[Zdt];rw[Zpf h (hx x (by simp)).1 (hx y (by simp)).1]
 case appT s b f x y=>exact Zpf h (hx x (by simp)).1 (hx y (by simp)).1 s b base
 case buildT s n xs=>
  refine Zt4 h fun y hy=>?_;obtain⟨z,h1,rfl⟩:=Zh5 hy;exact(hx z h1).1
 case call f as1=>
  have hf:=hx f (by simp);cases he:evO sl f<;>simp only[Zdu]
  rename_i g aa;refine Zve h C (M g) base g fun y hy=>?_;rcases Kh.1 hy with hy | hy
  ·obtain⟨z,h1,rfl⟩:=Zh5 hy;exact(hx z (by simp[h1])).1
  ·exact hf.2 g aa he y hy
theorem Zsv {Γ:Gh} {w:World} {I:Nat→Prop} {x:AV} {v:Value} (h:Yw Γ w I x v):∀ id∈Zn x,∃ r,Γ id=some r:=by
 intro id aa;cases x<;>simp only[Zn,KG,KC,Kd,or_false] at aa
 case ptr i off=>subst aa;obtain⟨b,h1,_⟩:=h;exact⟨_,h1⟩
 case prow i sz k off=>subst aa;obtain⟨b,o,n,c,h1,_⟩:=h;exact⟨_,h1⟩
 case own i=>subst aa;obtain⟨a,n,c,sz,h1,_⟩:=h;exact⟨_,h1⟩
 case ownv i off n=>subst aa;obtain⟨a0,m,c,sz,a,h1,_⟩:=h;exact⟨_,h1⟩
 case bnil i e=>subst aa;obtain⟨b,h1,_⟩:=h;exact⟨_,h1⟩
theorem Zl8 {Γ:Gh} {w:World} {I:Nat→Prop}:∀ {xs:List AV} {vs:List Value},Zy (Yw Γ w I) xs vs→∀ id∈xs.flatMap Zn,∃ r,Γ id=some r
 | [],[],_,id,aa=>by simp at aa
 | [],_ :: _,h,_,_=>h.elim
 | _ :: _,[],h,_,_=>h.elim
 | x :: xs,v :: vs,h,id,aa=>by
  simp only[KQ,Kh] at aa;rcases aa with aa | aa
  ·exact Zsv h.1 id aa
  ·exact Zl8 h.2 id aa
theorem Zl9 {Γ:Gh} {w:World} {I:Nat→Prop} {x:AV} {v:Value} (h:UD Γ w I x v):∀ id∈ZA x,∃ r,Γ id=some r:=by
 intro id aa;by_cases hs:x.small=true
 ·rw[(Yq hs (fun k=>k) []).2.2.2.2.2] at aa;rw[(Wi hs v).2.1] at h;exact Zsv h id aa
 ·cases x with
  | agg cs=>obtain⟨us,_,h2⟩:=h;exact Zl8 h2 id aa
  | clo f cs=>obtain⟨us,_,h2⟩:=h;exact Zl8 h2 id aa
  | tup cs=>exact h.elim
  | d x=>simp[ZA,Zn] at aa
  | _=>exact absurd rfl hs
theorem Zzm {Γ:Gh} {w:World} {I:Nat→Prop} {x:AV} {v:Value} (h:Xw Γ w I x v):∀ id∈ZA x,∃ r,Γ id=some r:=Zl9 h.rep2
theorem Zpl {Γ:Gh} {w:World} {I:Nat→Prop}:∀ {xs:List AV} {vs:List Value},Zy (UD Γ w I) xs vs→∀ id∈xs.flatMap ZA,∃ r,Γ id=some r
 | [],[],_,id,aa=>by simp at aa
 | [],_ :: _,h,_,_=>h.elim
 | _ :: _,[],h,_,_=>h.elim
 | x :: xs,v :: vs,h,id,aa=>by
  simp only[KQ,Kh] at aa;rcases aa with aa | aa
  ·exact Zl9 h.1 id aa
  ·exact Zpl h.2 id aa
theorem Zvf {Γ:Gh} {w:World} {I:Nat→Prop} {x:AV} {v:Value} (h:Rep Γ w I x v):∀ id∈Zx x,∃ r,Γ id=some r:=by
 intro id aa;by_cases ht:∃ vs,x=.tup vs
 ·obtain⟨vs,rfl⟩:=ht;obtain⟨us,_,h2⟩:=h;exact Zpl h2 id aa
 ·have e:Rep Γ w I x v=UD Γ w I x v:=by cases x<;>first | rfl | exact absurd ⟨_,rfl⟩ ht
  rw[e] at h;refine Zl9 h id ?_;cases x<;>first | exact aa | exact absurd ⟨_,rfl⟩ ht
theorem Zpm {Γ:Gh} {w:World} {I:Nat→Prop}:∀ {xs:List AV} {vs:List Value},Zy (Xw Γ w I) xs vs→∀ id∈xs.flatMap ZA,∃ r,Γ id=some r
 | [],[],_,id,aa=>by simp at aa
 | [],_ :: _,h,_,_=>h.elim
 | _ :: _,[],h,_,_=>h.elim
 | x :: xs,v :: vs,h,id,aa=>by
  simp only[KQ,Kh] at aa;rcases aa with aa | aa
  ·exact Zzm h.1 id aa
  ·exact Zpm h.2 id aa
theorem ZAQ {Γ:Gh} {w:World} {I:Nat→Prop} {x:AV} {v:Value} (hn:∀ id,¬U id→Γ id=none) (h:Rep Γ w I x v):Zkl U x:=by
 have ab:∀ id,(∃ r,Γ id=some r)→U id:=fun id ⟨r,hr⟩=>Classical.byContradiction fun hu=>by rw[hn id hu] at hr;cases hr
 refine⟨fun id aa=>ab id (Zvf h id aa),fun f ad hx c hc=>?_⟩;subst hx;obtain⟨us,_,h2⟩:=h;obtain⟨i,hi⟩:=LA hc;obtain⟨u,_,h3⟩:=h2.get i c hi;exact fun id aa=>ab id (Zvf h3.rep2.rep id aa)
end
section
variable {P:Program} {nt:Nat} {F A I:Nat→Prop} {Γ:Gh} {U:Nat→Prop} {sl:Sl} {hp:Hp} {a:Act} {w:World}
theorem Sim.good (h:Sim nt F A I Γ U sl hp a w) (t:Nat):Zkl U (gs sl t):=ZAQ h.names (h.slots t)
theorem Sim.agree (h:Sim nt F A I Γ U sl hp a w) {hp' : Hp} (hs:∀ id,U id→lkp hp id=lkp hp' id):Xl U hp hp':=by
 refine⟨hs,fun id o hu hl i hi=>?_⟩;have ho:=h.objs id o hl;cases o with
 | box cs=>
  obtain⟨b,cur,e,_,_,_,_,h5,_⟩:=ho;obtain⟨r,hr⟩:=Zpm h5 i hi;exact Classical.byContradiction fun hu=>by rw[h.names i hu] at hr;cases hr
 | row sz xs ex fz=>simp[UI] at hi
 | gone=>simp[UI] at hi
 | tree sz ns xs lk=>simp[UI] at hi
theorem Oper.wp_ex {o:Oper} {a:Act} {w:World} {K:Act→World→Prop} (h:o.wp P a w K (fun _ _ _=>False)):∃ a' w',K a' w':=by
 unfold Oper.wp at h;generalize (execOp a.eval o).run P w=r at h;cases r with
 | ok n w' =>
  cases n<;>simp only[Oper.upon] at h
  case value v=>exact⟨_,_,h⟩
  case skip=>exact⟨_,_,h⟩
  case defer d=>exact⟨_,_,h⟩
  case enter f args=>
   obtain⟨e,aa,fr,he,_⟩:=h [];cases e with
   | returned v=>exact⟨_,_,he⟩
   | panicked c=>exact he.elim
   | outgrown=>obtain⟨a,w,hf⟩:=he;exact hf.elim
  case row row args=>
   obtain⟨v,aa,he,_⟩:=h default [];exact⟨_,_,he⟩
 | halt x w'=>cases x<;>simp only[Oper.upon] at h
end
end Go.Abs
namespace Go.Abs
open Go
def XJ (s s' : Sl×Hp):Prop:=(∀ t,gs s.1 t=gs s'.1 t)∧∀ id,lkp s.2 id=lkp s'.2 id
theorem XJ.refl (s:Sl×Hp):XJ s s:=⟨fun _=>rfl,fun _=>rfl⟩
theorem XJ.symm {s s' : Sl×Hp} (h:XJ s s'):XJ s' s:=⟨fun t=>(h.1 t).symm,fun id=>(h.2 id).symm⟩
theorem XJ.trans {a b c:Sl×Hp} (h:XJ a b) (k:XJ b c):XJ a c:=⟨fun t=>(h.1 t).trans (k.1 t),fun id=>(h.2 id).trans (k.2 id)⟩
theorem Za0:∀ (l:Hp) {hp hp' : Hp},(∀ id,lkp hp id=lkp hp' id)→∀ id,lkp (Zi hp l) id=lkp (Zi hp' l) id
 | [],_,_,h=>h
 | (k,o) :: r,hp,hp',h=>by
  simp only[Zi];exact Za0 r fun id=>by rw[Qg,Qg,h id]
theorem Zkm:∀ (l:List Nat) {hp hp' : Hp},(∀ id,lkp hp id=lkp hp' id)→∀ id,lkp (Z6 hp l) id=lkp (Z6 hp' l) id
 | [],_,_,h=>h
 | d :: r,hp,hp',h=>by
  simp only[Z6];exact Zkm r fun id=>by rw[Zfc,Zfc,h id]
theorem ZAR (ce:Ze) (dst:Option Nat) {s s' : Sl×Hp} (h:XJ s s'):XJ (ce.on dst s.1 s.2) (ce.on dst s'.1 s'.2):=by
 refine⟨fun t=>?_,fun id=>?_⟩
 ·show gs (Zs (Xc ce.gone s.1) dst ce.eff.val) t=gs (Zs (Xc ce.gone s'.1) dst ce.eff.val) t;rw[QC,QC,QN,QN,h.1 t]
 ·exact Za0 _ (Za0 _ (Zkm _ fun id=>by rw[Qc,Qc,VS,VS,h.2 id])) id
noncomputable def ZN (C:Orc) (M:Zq) (nx i:Nat) (t:Bool) (o:CO) (s:Sl×Hp):Option (Sl×Hp):=
 bnd (ZZ s.1 o.guard) fun b=>if b then Ys (nx+64*i) o.dst s.1 s.2 (VQ C M nx i t o.op s.1 s.2) else some (Zs s.1 o.dst (.tup []),s.2)
noncomputable def ZH (C:Orc) (M:Zq) (os:List CO) (nx i:Nat) (s:Sl×Hp):Option (Sl×Hp):=bnd os[i]? fun o=>ZN C M nx i (ZV os i) o s
noncomputable def runL (C:Orc) (M:Zq) (os:List CO) (nx:Nat):List Nat→Sl×Hp→Option (Sl×Hp)
 | [],s=>some s
 | i :: l,s=>bnd (ZH C M os nx i s) (runL C M os nx l)
theorem Zjz (C:Orc) (M:Zq) (os:List CO) (nx:Nat):∀ (aa:List CO) (i:Nat) (t:Bool) (sl:Sl) (hp:Hp),os.drop i=aa →
  Us C M nx i t aa sl hp=runL C M os nx (List.range' i aa.length) (sl,hp)
 | [],i,t,sl,hp,_=>rfl
 | o :: aa,i,t,sl,hp,hd=>by
  have h1:os[i]?=some o:=by
   have:(os.drop i)[0]?=some o:=by rw[hd];rfl
   rw[Lo] at this;simpa using this
  have h2:os.drop (i+1)=aa:=by rw[← Kaz,hd];rfl
  have h4:CO.starts o=ZV os i:=by simp only[ZV,h1]
  simp only[Us,Kn,List.range'_succ,runL,ZH,h1,Zg,ZN,h4];cases hw:ZZ sl o.guard with
  | none=>rfl
  | some b=>
   cases b with
   | true=>
    simp only[Zg,Kl];cases hs:Ys (nx+64*i) o.dst sl hp (VQ C M nx i (ZV os i) o.op sl hp) with
    | none=>rfl
    | some r=>
     simp only[Zg];exact Zjz C M os nx aa (i+1) t r.1 r.2 h2
   | false=>
    simp only[Zg,Ka,Km];exact Zjz C M os nx aa (i+1) t _ _ h2
theorem Zw2 {hp hp' : Hp} (h:∀ id,lkp hp id=lkp hp' id):Xl (fun _=>True) hp hp':=⟨fun id _=>h id,fun _ _ _ _ _ _=>trivial⟩
theorem Zzn (C:Orc) (M:Zq) {s s' : Sl×Hp} (h:XJ s s') (base:Nat) (c:COp):vop C M s.1 s.2 base c=vop C M s'.1 s'.2 base c:=by
 have h1:∀ x:Opd,evO s.1 x=evO s'.1 x:=fun x=>by cases x<;>simp only[evO];exact h.1 _
 rw[Xi C M s.2 base (sl:=s.1) (sl':=s'.1) fun x _=>h1 x];exact JC (Zw2 h.2) C M base fun x _=>⟨fun _ _=>trivial,fun _ _ _ _ _ _ _=>trivial⟩
theorem Zvg {s s' : Sl×Hp} (h:XJ s s') (g:Option (Nat×Bool)):ZZ s.1 g=ZZ s'.1 g:=by
 cases g with
 | none=>rfl
 | some q=>simp only[ZZ,h.1]
theorem Zvh {C:Orc} {M:Zq} {os:List CO} {nx i:Nat} {s s' r:Sl×Hp} (h:XJ s s') (hr:ZH C M os nx i s=some r):∃ r',ZH C M os nx i s'=some r'∧XJ r r':=by
 unfold ZH at hr ⊢;obtain⟨o,h1,hr⟩:=Za hr;rw[h1,Zg];unfold ZN at hr ⊢;obtain⟨b,h2,hr⟩:=Za hr;rw[← Zvg h,h2,Zg];cases b with
 | true=>
  simp only[Kl] at hr ⊢;obtain⟨ce,h3,h4,rfl⟩:=Xr hr;have h5:VQ C M nx i (ZV os i) o.op s'.1 s'.2=some ce:=by
   rw[← h3];unfold VQ;rw[Zzn C M h]
  refine⟨ce.on o.dst s'.1 s'.2,?_,ZAR ce o.dst h⟩;unfold Ys;rw[h5,Zg,Kj h4]
 | false=>
  simp only[Ka,Km] at hr ⊢;cases hr;refine⟨_,rfl,fun t=>?_,h.2⟩;show gs (Zs s.1 o.dst (.tup [])) t=gs (Zs s'.1 o.dst (.tup [])) t;rw[QC,QC,h.1 t]
theorem Zpn {C:Orc} {M:Zq} {os:List CO} {nx:Nat}:∀ {l:List Nat} {s s' r:Sl×Hp},XJ s s'→runL C M os nx l s=some r→∃ r',runL C M os nx l s'=some r'∧XJ r r'
 | [],s,s',r,h,hr=>by simp only[runL] at hr ⊢;cases hr;exact⟨s',rfl,h⟩
 | i :: l,s,s',r,h,hr=>by
  simp only[runL] at hr ⊢;obtain⟨s1,h1,hr⟩:=Za hr;obtain⟨aa,h2,h3⟩:=Zvh h h1;rw[h2,Zg];exact Zpn h3 hr
theorem QD {sl:Sl} {d:Option Nat} {v:AV} {o:CO} (h:QL d (looks o)=true):ZZ (Zs sl d v) o.guard=ZZ sl o.guard:=by
 cases hg:o.guard with
 | none=>rfl
 | some q=>
  simp only[ZZ];rw[QC,Ke];intro e;rw[e] at h;simp[QL,looks,hg,ZpZ] at h
theorem VU {sl:Sl} {d:Option Nat} {v:AV} {o:CO} (h:QL d (looks o)=true):∀ x∈ZF o.op,evO (Zs sl d v) x=evO sl x:=by
 intro x hx;cases x with
 | t n=>
  simp only[evO];rw[QC,Ke];intro e;rw[e] at h;simp only[QL,looks,K0,KX,Li] at h;exact h (Kh.2 (.inl (Kz.2 ⟨_,hx,by simp[WD]⟩)))
 | _=>rfl
theorem ZjA {C:Orc} {M:Zq} {nx i:Nat} {o:CO} {s s' : Sl×Hp} (h:ZN C M nx i false o s=some s') :
  ∃ v adds,s'=(Zs s.1 o.dst v,Zi s.2 adds)∧(∀ k x,(k,x)∈adds→nx+64*i≤k∧k<nx+64*i+64) ∧
   ∀ aa : Sl×Hp,ZZ aa.1 o.guard=ZZ s.1 o.guard→vop C M aa.1 aa.2 (nx+64*i) o.op=vop C M s.1 s.2 (nx+64*i) o.op→ZN C M nx i false o aa=some (Zs aa.1 o.dst v,Zi aa.2 adds):=by
 unfold ZN at h;obtain⟨b,hw,h⟩:=Za h;cases b with
 | true=>
  simp only[Kl] at h;obtain⟨ce,h1,h2,rfl⟩:=Xr h;unfold VQ at h1;simp only[Ka,Km] at h1;have ad:=h1;unfold ZbR at h1;obtain⟨c,h3,h1⟩:=Za h1;unfold Ze4 at h1;split at h1
  ·rename_i e1 e2 e3 e4;cases h1;have ab:∀ s:Sl×Hp,ce.on o.dst s.1 s.2=(Zs s.1 o.dst ce.eff.val,Zi s.2 ce.eff.adds):=by
    intro s;unfold Ze.on Eff.on;rw[e1,e2,e3,e4];rfl
   refine⟨ce.eff.val,ce.eff.adds,ab s,Uu h2,fun aa g1 g2=>?_⟩;unfold ZN;rw[g1,hw,Zg];simp only[Kl];unfold Ys VQ;simp only[Ka,Km];rw[g2,ad,Zg,Kj h2,ab]
  ·cases h1
 | false=>
  simp only[Ka,Km] at h;cases h;refine⟨.tup [],[],rfl,fun k x hk=>by simp at hk,fun aa g1 g2=>?_⟩;unfold ZN;rw[g1,hw,Zg];rfl
theorem UB {U:Nat→Prop} {a:AV} (h:YI (.v a)=true):Zkl U a:=by
 simp only[YI,Kf,List.isEmpty_iff,K0] at h;refine⟨fun id aa=>by rw[h.1] at aa;simp at aa,fun f ab hx=>?_⟩;subst hx;simp[ZsP] at h
section
variable {P:Program} {nt:Nat}
def ZiN (nt:Nat) (s:Sl×Hp) (U:Nat→Prop):Prop:=∃ F A I Γ a w,Sim nt F A I Γ U s.1 s.2 a w
theorem VV {U:Nat→Prop} {base:Nat} (hf:Xa U base) {adds:Hp} (ha:∀ k x,(k,x)∈adds→base≤k∧k<base+64) (hp:Hp):∀ id,U id→lkp hp id=lkp (Zi hp adds) id:=by
 intro id hu;rw[ZD];intro o ho;obtain⟨h1,h2⟩:=ha id o ho;exact hf id h1 h2 hu
theorem WH {sl:Sl} {d e:Option Nat} (h:JJ d e=true) (u v:AV) (t:Nat):gs (Zs (Zs sl d u) e v) t=gs (Zs (Zs sl e v) d u) t:=by
 simp only[QC];by_cases h1:e=some t
 ·by_cases h2:d=some t
  ·rw[h1,h2] at h;simp[JJ] at h
  ·simp[h1,h2]
 ·simp[h1]
theorem ZAS {adds aa : Hp} {b b' : Nat} (ha:∀ k x,(k,x)∈adds→b≤k∧k<b+64) (ad : ∀ k x,(k,x)∈aa→b'≤k∧k<b'+64) (hd:b+64≤b'∨b'+64≤b) (hp:Hp) (id:Nat) :
  lkp (Zi (Zi hp adds) aa) id=lkp (Zi (Zi hp aa) adds) id:=by
 have ab:∀ (l:Hp) (hp hp' : Hp),(∀ o,(id,o)∉l)→lkp (Zi hp l) id=lkp hp id:=fun l hp _ h=>ZD l hp id h;by_cases h1:∃ o,(id,o)∈adds
 ·have h2:∀ o,(id,o)∉aa:=fun o ho=>by
   obtain⟨o',ae⟩:=h1;have:=ha id o' ae;have:=ad id o ho;omega
  rw[ZD aa _ id h2];have ab:∀ (l:Hp) (hp hp' : Hp),lkp hp id=lkp hp' id→lkp (Zi hp l) id=lkp (Zi hp' l) id:=by
   intro l
   induction l with
   | nil=>intro hp hp' h;exact h
   | cons q r ih=>
    intro hp hp' h;obtain⟨k,x⟩:=q;simp only[Zi];exact ih _ _ (by rw[Qg,Qg,h])
  exact ab adds _ _ (ZD aa hp id h2).symm
 ·have h2:∀ o,(id,o)∉adds:=fun o ho=>h1 ⟨o,ho⟩;rw[ZD adds _ id h2];have ab:∀ (l:Hp) (hp hp' : Hp),lkp hp id=lkp hp' id→lkp (Zi hp l) id=lkp (Zi hp' l) id:=by
   intro l
   induction l with
   | nil=>intro hp hp' h;exact h
   | cons q r ih=>
    intro hp hp' h;obtain⟨k,x⟩:=q;simp only[Zi];exact ih _ _ (by rw[Qg,Qg,h])
  exact ab aa _ _ (ZD adds hp id h2)
theorem Zpo {C:Orc} {M:Zq} {os:List CO} {nx i j:Nat} {oi oj:CO} (an:os[i]?=some oi) (ab:os[j]?=some oj) (ae:ZV os j=false) (ao:i≠j) (af:Xx oj oi=true)
  (ad:∀ (k:Nat) (o:CO),os[k]?=some o→∀ x∈ZF o.op,YI x=true) {s s1 s2:Sl×Hp} {U:Nat→Prop} (hs:ZiN nt s U) (ap:Xa U (nx+64*i)) (aq:Xa U (nx+64*j))
  (h1:ZH C M os nx j s=some s1) (h2:ZN C M nx i false oi s1=some s2):∃ t1,ZN C M nx i false oi s=some t1∧∃ t2,ZH C M os nx j t1=some t2∧XJ t2 s2:=by
 obtain⟨F,A,I,Γ,a,w,aa⟩:=hs;simp only[Xx,Kf] at af;obtain⟨⟨ag,ar⟩,ah⟩:=af;have good:∀ (k:Nat) (o:CO),os[k]?=some o→∀ x∈ZF o.op,Zkl U (evO s.1 x):=by
  intro k o ho x hx;cases x with
  | t n=>exact aa.good n
  | v y=>exact UB (ad k o ho _ hx)
  | f n=>exact⟨fun id au=>by simp[evO,Zx,ZA] at au,fun f av h c hc=>by cases h;simp at hc⟩
 simp only[ZH,ab,Zg,ae] at h1;obtain⟨vj,aj,rfl,ak,aw⟩:=ZjA h1;obtain⟨vi,ai,rfl,al,am⟩:=ZjA h2;dsimp only at am;have e1:ZN C M nx i false oi s=some (Zs s.1 oi.dst vi,Zi s.2 ai):=by
  refine am s (QD ag).symm ?_;rw[Xi C M (Zi s.2 aj) (nx+64*i) (VU (o:=oi) ag)];exact JC (aa.agree (VV aq ak s.2)) C M _ (good i oi an)
 refine⟨_,e1,?_⟩;have e2:ZN C M nx j false oj (Zs s.1 oi.dst vi,Zi s.2 ai)=some (Zs (Zs s.1 oi.dst vi) oj.dst vj,Zi (Zi s.2 ai) aj):=by
  refine aw (Zs s.1 oi.dst vi,Zi s.2 ai) (QD ah) ?_;rw[Xi C M (Zi s.2 ai) (nx+64*j) (VU (o:=oj) ah)];exact(JC (aa.agree (VV ap al s.2)) C M _ (good j oj ab)).symm
 refine⟨_,by simp only[ZH,ab,Zg,ae];exact e2,fun t=>?_,fun id=>?_⟩
 ·exact(WH ar vj vi t).symm
 ·refine ZAS al ak ?_ s.2 id;rcases LX ao with h | h
  ·left;omega
  ·right;omega
theorem Zzo {C:Orc} {M:Zq} {os:List CO} {nx i j:Nat} {oi oj:CO} (ab:os[i]?=some oi) (ad:os[j]?=some oj) (ae:ZV os i=false) (af:ZV os j=false) (ag:i≠j) (ah:Xx oj oi=true)
  (aa:∀ (k:Nat) (o:CO),os[k]?=some o→∀ x∈ZF o.op,YI x=true) {s s1 s2:Sl×Hp} {U:Nat→Prop} (hs:ZiN nt s U) (ai:Xa U (nx+64*i)) (aj:Xa U (nx+64*j))
  (h1:ZH C M os nx j s=some s1) (h2:ZH C M os nx i s1=some s2):∃ t1,ZH C M os nx i s=some t1∧∃ t2,ZH C M os nx j t1=some t2∧XJ t2 s2:=by
 have e:∀ s:Sl×Hp,ZH C M os nx i s=ZN C M nx i false oi s:=fun s=>by simp only[ZH,ab,Zg,ae]
 rw[e] at h2;simp only[e];exact Zpo ab ad af ag ah aa hs ai aj h1 h2
end
end Go.Abs
