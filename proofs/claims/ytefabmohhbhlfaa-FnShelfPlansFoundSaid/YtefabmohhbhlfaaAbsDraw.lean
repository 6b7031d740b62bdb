/- Own text. -/
import Derived.Test.YtefabmohhbhlfaaAbsSound2
set_option linter.unusedVariables false
set_option linter.unusedSimpArgs false
namespace Go.Abs
open Go
theorem JU {sl sl' : Sl}:∀ {xs:List Opd},(∀ x∈xs,evO sl x=evO sl' x)→evL sl xs=evL sl' xs
 | [],_=>rfl
 | x :: xs,h=>by simp only[evL,h x (by simp),JU (xs:=xs) fun y hy=>h y (Kt _ hy)]
theorem Zjj {sl sl' : Sl}:∀ {xs:List (Nat×Nat×Opd)},(∀ x∈xs.map (fun q=>q.2.2),evO sl x=evO sl' x)→evP sl xs=evP sl' xs
 | [],_=>rfl
 | (a,b,x) :: xs,h=>by simp only[evP,h x (by simp),Zjj (xs:=xs) fun y hy=>h y (by simp only[Kq,Kf];exact .inr hy)]
theorem ZbQ {sl sl' : Sl} {x:Option Opd} (h:∀ y∈Znw x,evO sl y=evO sl' y):evM sl x=evM sl' x:=by
 cases x with
 | none=>rfl
 | some y=>simp only[evM,h y (by simp[Znw])]
theorem QA (C:Orc) (M:Zg) {sl sl' : Sl} (hp:Hp) (base:Nat):∀ {c:COp},(∀ x∈Zt c,evO sl x=evO sl' x)→vop C M sl hp base c=vop C M sl' hp base c:=by
 intro c h;cases c<;>simp only[Zt] at h<;>simp only[vop]
 case move x=>rw[h x (by simp)]
 case assign s x=>rw[h x (by simp)]
 case pick c a b=>rw[h c (by simp),h a (by simp),h b (by simp)]
 case box x=>rw[h x (by simp)]
 case build zs ps=>rw[Zjj h]
 case buildSl s xs=>rw[JU h]
 case load g s a=>rw[h a (by simp)]
 case store slc s a x=>rw[h a (by simp),h x (by simp)]
 case nilCheck x=>rw[h x (by simp)]
 case bin op eq x y=>rw[h x (by simp),h y (by simp)]
 case un op x=>rw[h x (by simp)]
 case eqA neg n x y=>rw[h x (by simp),h y (by simp)]
 case convI k x=>rw[h x (by simp)]
 case convS x=>rw[h x (by simp)]
 case fn f cs=>rw[JU h]
 case make s b z l c=>rw[h l (by simp),h c (by simp)]
 case slice s x lo hi=>rw[h x (by simp),ZbQ fun y hy=>h y (by simp[hy]),ZbQ (x:=hi) fun y hy=>h y (by simp[hy])]
 case sliceS x lo hi=>rw[h x (by simp),ZbQ fun y hy=>h y (by simp[hy]),ZbQ (x:=hi) fun y hy=>h y (by simp[hy])]
 case slice0 x hi mx=>rw[h x (by simp),h hi (by simp),h mx (by simp)]
 case shift off x=>rw[h x (by simp)]
 case part g s off x=>rw[h x (by simp)]
 case iaS s x i=>rw[h x (by simp),h i (by simp)]
 case iaA len s x i=>rw[h x (by simp),h i (by simp)]
 case ixS x i=>rw[h x (by simp),h i (by simp)]
 case ixA g s len x i=>rw[h x (by simp),h i (by simp)]
 case nth i x=>rw[h x (by simp)]
 case len x=>rw[h x (by simp)]
 case lenS x=>rw[h x (by simp)]
 case append s b str flat x y=>rw[h x (by simp),h y (by simp)]
 case min x y=>rw[h x (by simp),h y (by simp)]
 case max x y=>rw[h x (by simp),h y (by simp)]
 case slice3 s x lo hi mx=>rw[h x (by simp),h lo (by simp),h hi (by simp),h mx (by simp)]
 case clear s z x=>rw[h x (by simp)]
 case buildT s n xs=>rw[JU h]
 case appT s b f x y=>rw[h x (by simp),h y (by simp)]
 case asgT s n x=>rw[h x (by simp)]
 case makeT s b n z l c=>rw[h l (by simp),h c (by simp)]
 case call f as=>rw[h f (by simp),JU (xs:=as) fun y hy=>h y (Kt _ hy)]
section
variable {U:Nat→Prop} {hp hp' : Hp}
structure QD (U:Nat→Prop) (hp hp' : Hp):Prop where
 same:∀ id,U id→lkp hp id=lkp hp' id
 closed:∀ id o,U id→lkp hp id=some o→∀ i∈VV o,U i
def InU (U:Nat→Prop) (x:AV):Prop:=∀ id∈Zo x,U id
theorem Zlx (h:QD U hp hp') {x:AV} (hx:InU U x) (g:Bool) (s:Nat):Vj hp g s x=Vj hp' g s x:=by
 cases x<;>simp only[Vj]
 case ptr id off=>rw[h.same id (hx id (by simp[Zo,Zr,Zf]))]
 case prow id sz i off=>rw[h.same id (hx id (by simp[Zo,Zr,Zf]))]
theorem Zej (h:QD U hp hp') {x:AV} (hx:InU U x) (sz n:Nat):Qd hp sz n x=Qd hp' sz n x:=by
 cases x<;>simp only[Qd]
 case d x=>cases x<;>rfl
 case own id=>rw[h.same id (hx id (by simp[Zo,Zr,Zf]))]
 case ownv id off m=>rw[h.same id (hx id (by simp[Zo,Zr,Zf]))]
theorem Zko (h:QD U hp hp') {x:AV} (hx:InU U x) (s:Nat) (lo hi:Option AV):Yl hp s lo hi x=Yl hp' s lo hi x:=by
 cases x<;>simp only[Yl]
 case d x=>cases x<;>rfl
 case own id=>rw[h.same id (hx id (by simp[Zo,Zr,Zf]))]
 case ownv id off m=>rw[h.same id (hx id (by simp[Zo,Zr,Zf]))]
theorem ZcF (h:QD U hp hp') {x:AV} (hx:InU U x):Jz hp x=Jz hp' x:=by
 cases x<;>simp only[Jz]
 case d x=>cases x<;>rfl
 case own id=>rw[h.same id (hx id (by simp[Zo,Zr,Zf]))]
theorem Zkp (h:QD U hp hp') {x:AV} (hx:InU U x) (s:Nat) (z:D):Zan hp s z x=Zan hp' s z x:=by
 cases x<;>simp only[Zan]
 case ownv id off m=>rw[h.same id (hx id (by simp[Zo,Zr,Zf]))]
theorem Zly (h:QD U hp hp') {x:AV} (hx:InU U x) (flat:Bool):Zbh hp flat x=Zbh hp' flat x:=by
 cases x<;>simp only[Zbh]
 case d x=>cases x<;>rfl
 case own id=>rw[h.same id (hx id (by simp[Zo,Zr,Zf]))]
 case ownv id off m=>rw[h.same id (hx id (by simp[Zo,Zr,Zf]))]
theorem Zlz (h:QD U hp hp') {x:AV} (hx:InU U x) (sz b base:Nat) (aa:List Nat) (ys:List D) (ex:Bool):Zcu hp sz b base aa ys ex x=Zcu hp' sz b base aa ys ex x:=by
 cases x<;>simp only[Zcu]
 case own id=>rw[h.same id (hx id (by simp[Zo,Zr,Zf]))]
 case ownv id off m=>rw[h.same id (hx id (by simp[Zo,Zr,Zf]))]
theorem ZiK (h:QD U hp hp') {x:AV} (hx:InU U x):Jp hp x=Jp hp' x:=by
 cases x<;>simp only[Jp]
 case own id=>rw[h.same id (hx id (by simp[Zo,Zr,Zf]))]
theorem ZiL (h:QD U hp hp') {x:AV} (hx:InU U x) (s b base id n:Nat) (ys:List D):Us hp s b base id n ys x=Us hp' s b base id n ys x:=by
 cases x<;>simp only[Us]
 case own k=>rw[h.same k (hx k (by simp[Zo,Zr,Zf]))]
theorem Zci (h:QD U hp hp') {x y:AV} (hx:InU U x) (hy:InU U y) (s b:Nat) (str flat:Bool) (base:Nat):V6 hp s b str flat base x y=V6 hp' s b str flat base x y:=by
 unfold V6;rw[Zly h hy];congr 1
 funext q
 rw[Zlz h hx]
theorem Zc8 (h:QD U hp hp') {x:AV} (hx:InU U x):QY hp x=QY hp' x:=by
 cases x<;>simp only[QY]
 case own id=>rw[h.same id (hx id (by simp[Zo,Zr,Zf]))]
theorem Zkq (h:QD U hp hp') (ids:List Nat):QD U (meltIn hp ids) (meltIn hp' ids):=by
 refine⟨fun id aa=>by rw[VD,VD,h.same id aa],fun id o aa hl=>?_⟩;rw[VD] at hl;cases hl0:lkp hp id with
 | none=>rw[hl0] at hl;cases hl
 | some o0=>
  rw[hl0] at hl;simp only[KW,Option.some.injEq] at hl;subst hl;have:=h.closed id o0 aa hl0;split
  ·cases o0 with
   | tree s n xs l=>cases l<;>exact this
   | _=>exact this
  ·exact this
theorem Zcj (h:QD U hp hp') {x y:AV} (hx:InU U x) (hy:InU U y) (s b:Nat) (str flat:Bool) (base:Nat) (ms:List Nat):XZ hp s b str flat base x y ms=XZ hp' s b str flat base x y ms:=by
 cases ms with
 | nil=>exact Zci h hx hy s b str flat base
 | cons i r=>simp only[XZ];rw[Zci (Zkq h (i :: r)) hx hy]
theorem Zgu (h:QD U hp hp') {x y:AV} (hx:InU U x) (hy:InU U y) (s b base:Nat):appT hp s b base x y=appT hp' s b base x y:=by
 unfold appT;rw[ZiK h hy];congr 2
 funext q
 rw[ZiL h hx]
theorem Ze5 (h:QD U hp hp') {x:AV} (hx:∀ id∈Zf x,U id):Uj hp x=Uj hp' x:=by
 cases x<;>simp only[Uj]
 case own id=>rw[h.same id (hx id (by simp[Zf]))]
theorem Za7 (h:QD U hp hp'):∀ {xs:List AV},(∀ id∈xs.flatMap Zf,U id)→Yo hp xs=Yo hp' xs
 | [],_=>rfl
 | x :: xs,hx=>by
  simp only[Yo];rw[Ze5 h fun id aa=>hx id (by simp only[KD,Kd];exact .inl aa),Za7 h (xs:=xs) fun id aa=>hx id (by simp only[KD,Kd];exact .inr aa)]
theorem ZlA (h:QD U hp hp') {n:Nat} {x:AV} (hx:∀ id∈Zf x,U id):Zbg hp n x=Zbg hp' n x:=by
 cases x<;>simp only[Zbg]
 case own id=>rw[h.same id (hx id (by simp[Zf]))]
theorem Jk (h:QD U hp hp') {n:Nat}:∀ {xs:List AV},(∀ id∈xs.flatMap Zf,U id)→Yt hp n xs=Yt hp' n xs
 | [],_=>rfl
 | x :: xs,hx=>by
  simp only[Yt];rw[ZlA h fun id aa=>hx id (by simp only[KD,Kd];exact .inl aa),Jk h (xs:=xs) fun id aa=>hx id (by simp only[KD,Kd];exact .inr aa)]
theorem JA (h:QD U hp hp') {n s:Nat}:∀ {xs:List AV},(∀ x∈xs,InU U x)→XY hp n s xs=XY hp' n s xs
 | [],_=>rfl
 | x :: xs,hx=>by
  cases x<;>simp only[XY]
  case agg cs=>rw[Jk h (hx (.agg cs) (by simp)),JA h (xs:=xs) fun x hm=>hx x (Kt _ hm)]
  case own id=>rw[Jk h (xs:=[.own id]) (fun i hi=>hx (.own id) (by simp) i (by simpa [Zo,Zr,Zf] using hi)),JA h (xs:=xs) fun x hm=>hx x (Kt _ hm)]
theorem Zkr (h:QD U hp hp') {base s n:Nat} {xs:List AV} (hx:∀ x∈xs,InU U x):buildT hp base s n xs=buildT hp' base s n xs:=by
 unfold buildT;rw[JA h hx]
theorem Zks (h:QD U hp hp') {x:AV} (hx:InU U x) (slc:List (Option Nat)) (s base:Nat) (vs:List AV) (hv:∀ id∈vs.flatMap Zf,U id):Ud hp slc s base vs x=Ud hp' slc s base vs x:=by
 cases x<;>simp only[Ud]
 case ptr id off=>rw[h.same id (hx id (by simp[Zo,Zr,Zf]))]
 case prow id sz i off=>
  rw[h.same id (hx id (by simp[Zo,Zr,Zf]))];unfold UK;rw[Za7 h hv];have ht:∀ n,Yt hp n vs=Yt hp' n vs:=fun n=>Jk h hv;simp only[ht]
theorem Zgv {x:AV} (hx:InU U x):∀ id∈x.cells.flatMap Zf,U id:=by
 intro id aa;refine hx id ?_;cases x<;>simp only[AV.cells] at aa<;>first
  | (simp[Zf] at aa;done)
  | (obtain⟨c,hc,ab⟩:=Ks.1 aa;obtain⟨y,_,rfl⟩:=KV.1 hc;simp[Zf] at ab;done)
  | (simpa [Zo,Zr,Zf] using aa)
theorem Zm1 (h:QD U hp hp') {x:AV} (hx:InU U x):give hp x=give hp' x:=by
 cases x with
 | agg cs=>simp only[give];rw[Za7 h hx]
 | own id=>exact Ze5 h (x:=.own id) hx
 | _=>rfl
theorem Zck (h:QD U hp hp'):∀ {xs:List AV},(∀ x∈xs,InU U x)→Y2 hp xs=Y2 hp' xs
 | [],_=>rfl
 | x :: xs,hx=>by
  simp only[Y2];rw[Zm1 h (hx x (by simp)),Zck h (xs:=xs) fun y hy=>hx y (Kt _ hy)]
theorem Zah (h:QD U hp hp') {x:AV} (hx:∀ id∈Zf x,U id):Zcd hp x=Zcd hp' x:=by
 cases x<;>simp only[Zcd]
 case own id=>rw[h.same id (hx id (by simp[Zf]))]
 case ownv id off n=>rw[h.same id (hx id (by simp[Zf]))]
theorem Zgw (h:QD U hp hp'):∀ {xs:List AV},(∀ id∈xs.flatMap Zf,U id)→Qb (Zcd hp) xs=Qb (Zcd hp') xs
 | [],_=>rfl
 | x :: xs,hx=>by
  simp only[Qb];rw[Zah h fun id aa=>hx id (by simp only[KD,Kd];exact .inl aa),Zgw h (xs:=xs) fun id aa=>hx id (by simp only[KD,Kd];exact .inr aa)]
theorem Zjk (h:QD U hp hp') {x:AV} (hx:InU U x):toD hp x=toD hp' x:=by
 cases x with
 | agg cs=>simp only[toD];rw[Zgw h hx]
 | own id=>exact Zah h (x:=.own id) hx
 | ownv id off n=>exact Zah h (x:=.ownv id off n) hx
 | _=>rfl
theorem Zm2 (h:QD U hp hp') (m:Bool) {x:AV} (hx:InU U x):Je hp m x=Je hp' m x:=by
 cases x with
 | own id=>
  simp only[Je];cases m
  ·simp only[Zao];rw[Zah h (x:=.own id) hx]
  ·rfl
 | agg cs=>
  simp only[Je];cases m
  ·simp only[Zap];rw[Zjk h hx]
  ·rfl
 | ownv id off n=>simp only[Je];rw[Zjk h hx]
 | _=>rfl
theorem Zgx (h:QD U hp hp') (m:Nat→Bool):∀ {xs:List AV} (i:Nat),(∀ x∈xs,InU U x)→args hp m i xs=args hp' m i xs
 | [],i,_=>rfl
 | x :: xs,i,hx=>by
  simp only[args];rw[Zm2 h (m i) (hx x (by simp)),Zgx h m (xs:=xs) (i+1) fun y hy=>hx y (Kt _ hy)]
theorem ZrI {m:Bool} {x y:AV} (hx:InU U x) (h:Je hp m x=some y):InU U y:=by
 unfold Je at h;split at h
 ·cases h;exact hx
 ·cases h;exact hx
 ·cases h;exact hx
 ·cases h;exact hx
 ·cases h;exact hx
 ·rename_i id;cases m
  ·simp only[Zao,asD] at h;obtain⟨d,_,h⟩:=Za h;cases h;exact fun id aa=>by simp[Zo,Zr,Zf] at aa
  ·simp only[Zao] at h;cases h;exact hx
 ·cases m
  ·simp only[Zbi] at h;cases h;exact fun id aa=>by simp[Zo,Zr,Zf] at aa
  ·simp only[Zbi] at h;cases h;exact hx
 ·cases h;exact hx
 ·cases m
  ·simp only[Zap,asD] at h;obtain⟨d,_,h⟩:=Za h;cases h;exact fun id aa=>by simp[Zo,Zr,Zf] at aa
  ·simp only[Zap] at h;split at h
   ·cases h
   ·cases h;exact hx
 ·obtain⟨d,_,h⟩:=Za h;cases h;exact fun id aa=>by simp[Zo,Zr,Zf] at aa
theorem Zoi {m:Nat→Bool}:∀ {xs ys:List AV} (i:Nat),(∀ x∈xs,InU U x)→args hp m i xs=some ys→∀ y∈ys,InU U y
 | [],ys,i,_,h=>by simp only[args] at h;cases h;simp
 | x :: xs,ys,i,hx,h=>by
  simp only[args] at h;obtain⟨y,h1,h⟩:=Za h;obtain⟨aa,h2,h⟩:=Za h;cases h;intro z hz;rcases Kf.1 hz with rfl | hz
  ·exact ZrI (hx x (by simp)) h1
  ·exact Zoi (i+1) (fun y hy=>hx y (by simp[hy])) h2 z hz
theorem Jl (h:QD U hp hp'):∀ (n:Nat) (todo aa:List Nat),(∀ i∈todo,U i)→Qv hp n todo aa=Qv hp' n todo aa
 | 0,todo,aa,_=>by simp only[Qv]
 | n+1,[],aa,_=>by simp only[Qv]
 | n+1,id :: todo,aa,ht=>by
  simp only[Qv];rw[Jl h n todo aa fun i hi=>ht i (by simp[hi])];rw[← h.same id (ht id (by simp))];cases hl:lkp hp id with
  | none=>simp only[V7];rw[Jl h n todo aa fun i hi=>ht i (by simp[hi])]
  | some o=>
   simp only[V7];rw[Jl h n (todo++VV o) (aa++[id]) fun i hi=>by
    rcases Kd.1 hi with hi | hi
    ·exact ht i (by simp[hi])
    ·exact h.closed id o (ht id (by simp)) hl i hi]
theorem Zc9 (h:QD U hp hp'):∀ (n:Nat) (todo aa:List Nat),(∀ i∈todo,U i)→(∀ i∈aa,U i)→∀ i∈Qv hp n todo aa,U i
 | 0,todo,aa,_,ha=>by simp only[Qv];exact ha
 | n+1,[],aa,_,ha=>by simp only[Qv];exact ha
 | n+1,id :: todo,aa,ht,ha=>by
  simp only[Qv];split
  ·exact Zc9 h n todo aa (fun i hi=>ht i (by simp[hi])) ha
  ·cases hl:lkp hp id with
   | none=>simp only[V7];exact Zc9 h n todo aa (fun i hi=>ht i (by simp[hi])) ha
   | some o=>
    simp only[V7];refine Zc9 h n (todo++VV o) (aa++[id]) (fun i hi=>?_) fun i hi=>?_
    ·rcases Kd.1 hi with hi | hi
     ·exact ht i (by simp[hi])
     ·exact h.closed id o (ht id (by simp)) hl i hi
    ·rcases Kd.1 hi with hi | hi
     ·exact ha i hi
     ·simp at hi;subst hi;exact ht i (by simp)
theorem Zgy (h:QD U hp hp'):∀ {ids:List Nat},(∀ i∈ids,U i)→JB hp ids=JB hp' ids
 | [],_=>rfl
 | i :: ids,hi=>by simp only[JB,h.same i (hi i (by simp)),Zgy h (ids:=ids) fun j hj=>hi j (Kt _ hj)]
theorem Zgz (h:QD U hp hp') {base:Nat} {ids aa:List Nat} (hi:∀ i∈ids,U i) (hl:∀ i∈aa,U i) (keep:Bool) (r:AV) (out:List Zh):W1 keep hp base ids aa r out=W1 keep hp' base ids aa r out:=by
 unfold W1;have:Zes hp ids out keep=Zes hp' ids out keep:=by
  cases keep
  ·exact List.filter_congr fun i hm=>by rw[h.same i (hi i hm)]
  ·rfl
 have h2:∀ {l:List Nat},(∀ i∈l,U i)→(l.any fun i=>UQ (lkp hp i))=l.any fun i=>UQ (lkp hp' i):=by
  intro l
  induction l with
  | nil=>intro _;rfl
  | cons i l ih=>intro hl;simp only[List.any_cons];rw[h.same i (hl i (by simp)),ih fun k hk=>hl k (by simp[hk])]
 rw[this,h2 hl]
theorem Zqn (x:AV):∀ i∈Jh x,i∈Zf x:=by
 intro i hi;cases x<;>simp only[Jh,Zf] at hi ⊢ <;> first | exact hi | (simp at hi)
theorem Zo8 (x:AV):∀ i∈Zae x,i∈Zo x:=by
 intro i hi;cases x with
 | agg cs=>
  obtain⟨c,hc,hi⟩:=Ks.1 hi;exact Ks.2 ⟨c,hc,Zqn c i hi⟩
 | own id=>exact hi
 | ownv id a b=>exact hi
 | _=>simp[Zae,Jh] at hi
theorem Zjl:∀ {xs ys:List AV},(∀ x∈xs,InU U x)→∀ i∈Xz xs ys,U i
 | [],ys,_,i,hi=>by cases ys<;>simp[Xz] at hi
 | x :: xs,[],_,i,hi=>by simp[Xz] at hi
 | x :: xs,y :: ys,hx,i,hi=>by
  have ih:=Zjl (ys:=ys) fun z hz=>hx z (Kt _ hz);cases y<;>simp only[Xz] at hi<;>first | exact ih i hi | skip
  rcases Kd.1 hi with hi | hi
  ·exact hx x (by simp) i (Zo8 x i hi)
  ·exact ih i hi
theorem Zcl (h:QD U hp hp') (rs:List Nat):∀ {ids:List Nat},(∀ i∈ids,U i)→Ur hp rs ids=Ur hp' rs ids
 | [],_=>rfl
 | i :: ids,hi=>by
  have ih:=Zcl h rs (ids:=ids) fun k hk=>hi k (by simp[hk]);simp only[Ur,Lt] at ih ⊢;rw[ih,h.1 i (hi i (by simp))]
theorem ZlB (h:QD U hp hp') (C:Orc) (m:Nat→Bool) (base f:Nat) {ab:List AV} (hx:∀ x∈ab,InU U x):Jo C m hp base f ab=Jo C m hp' base f ab:=by
 unfold Jo;rw[← Zgx h m 0 hx];cases ha:args hp m 0 ab with
 | none=>rfl
 | some as=>
  simp only[bnd];have ad:=Zoi 0 hx ha;have ht:∀ i∈as.flatMap Zo,U i:=fun i hi=>by
   obtain⟨y,hy,hi⟩:=Ks.1 hi;exact ad y hy i hi
  have hf:QX hp=QX hp':=rfl;rw[hf,← Jl h (QX hp') (as.flatMap Zo) [] ht];have aa:=Zc9 h (QX hp') (as.flatMap Zo) [] ht (by simp);unfold Zaq;rw[Zgy h aa,Zcl h _ aa];congr 1
  congr 1
  funext q
  exact Zgz h aa (Zjl hx) (m 99) q.1 q.2
theorem clo_in {f:Nat} {aa:List AV} (h:InU U (.clo f aa)):∀ x∈aa,x.atom=true→InU U x:=by
 intro x hx ha id ab;refine h id (Ks.2 ⟨x,hx,?_⟩);cases x<;>first | exact ab | (simp[AV.atom] at ha)
end
end Go.Abs
