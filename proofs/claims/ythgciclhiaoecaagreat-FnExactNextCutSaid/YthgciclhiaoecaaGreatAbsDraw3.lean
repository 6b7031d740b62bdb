/- Own text. -/
import Derived.Test.YthgciclhiaoecaaGreatAbsSound2
import Derived.Test.YthgciclhiaoecaaGreatAbsSound3
set_option linter.unusedVariables false
set_option linter.unusedSimpArgs false
namespace Go.Abs
open Go
theorem ZeA {sl sl' : Sl}:∀ {xs:List Opd},(∀ x∈xs,evO sl x=evO sl' x)→evL sl xs=evL sl' xs
 | [],_=>rfl
 | x :: xs,h=>by simp only[evL,h x (by simp),ZeA (xs:=xs) fun y hy=>h y (Kv _ hy)]
theorem Ztm {sl sl' : Sl}:∀ {xs:List (Nat×Nat×Opd)},(∀ x∈xs.map (fun q=>q.2.2),evO sl x=evO sl' x)→evP sl xs=evP sl' xs
 | [],_=>rfl
 | (a,b,x) :: xs,h=>by simp only[evP,h x (by simp),Ztm (xs:=xs) fun y hy=>h y (by simp only[Ko,Kf];exact .inr hy)]
theorem ZiC {sl sl' : Sl} {x:Option Opd} (h:∀ y∈ZsM x,evO sl y=evO sl' y):evM sl x=evM sl' x:=by
 cases x with
 | none=>rfl
 | some y=>simp only[evM,h y (by simp[ZsM])]
theorem Xb (C:Orc) (M:Zm) {sl sl' : Sl} (hp:Hp) (base:Nat):∀ {c:COp},(∀ x∈ZD c,evO sl x=evO sl' x)→vop C M sl hp base c=vop C M sl' hp base c:=by
 intro c h;cases c<;>simp only[ZD] at h<;>simp only[vop]
 case move x=>rw[h x (by simp)]
 case assign s x=>rw[h x (by simp)]
 case pick c a b=>rw[h c (by simp),h a (by simp),h b (by simp)]
 case box x=>rw[h x (by simp)]
 case build zs ps=>rw[Ztm h]
 case buildSl s xs=>rw[ZeA h]
 case load g s a=>rw[h a (by simp)]
 case store slc s a x=>rw[h a (by simp),h x (by simp)]
 case nilCheck x=>rw[h x (by simp)]
 case bin op eq x y=>rw[h x (by simp),h y (by simp)]
 case un op x=>rw[h x (by simp)]
 case eqA neg n x y=>rw[h x (by simp),h y (by simp)]
 case convI k x=>rw[h x (by simp)]
 case convS x=>rw[h x (by simp)]
 case fn f cs=>rw[ZeA h]
 case make s b z l c=>rw[h l (by simp),h c (by simp)]
 case slice s x lo hi=>rw[h x (by simp),ZiC fun y hy=>h y (by simp[hy]),ZiC (x:=hi) fun y hy=>h y (by simp[hy])]
 case sliceS x lo hi=>rw[h x (by simp),ZiC fun y hy=>h y (by simp[hy]),ZiC (x:=hi) fun y hy=>h y (by simp[hy])]
 case slice0 x hi mx=>rw[h x (by simp),h hi (by simp),h mx (by simp)]
 case shift off x=>rw[h x (by simp)]
 case part g s off x=>rw[h x (by simp)]
 case iaS s x i=>rw[h x (by simp),h i (by simp)]
 case iaA len s x i=>rw[h x (by simp),h i (by simp)]
 case ixS x i=>rw[h x (by simp),h i (by simp)]
 case ixA g s len x i=>rw[h x (by simp),h i (by simp)]
 case nth i x=>rw[h x (by simp)]
 case len x=>rw[h x (by simp)]
 case lenS x=>rw[h x (by simp)]
 case append s b str flat x y=>rw[h x (by simp),h y (by simp)]
 case min x y=>rw[h x (by simp),h y (by simp)]
 case max x y=>rw[h x (by simp),h y (by simp)]
 case slice3 s x lo hi mx=>rw[h x (by simp),h lo (by simp),h hi (by simp),h mx (by simp)]
 case clear s z x=>rw[h x (by simp)]
 case buildT s n xs=>rw[ZeA h]
 case appT s b f x y=>rw[h x (by simp),h y (by simp)]
 case asgT s n x=>rw[h x (by simp)]
 case makeT s b n z l c=>rw[h l (by simp),h c (by simp)]
 case call f as=>rw[h f (by simp),ZeA (xs:=as) fun y hy=>h y (Kv _ hy)]
section
variable {U:Nat→Prop} {hp hp' : Hp}
structure Xe (U:Nat→Prop) (hp hp' : Hp):Prop where
 same:∀ id,U id→lkp hp id=lkp hp' id
 closed:∀ id o,U id→lkp hp id=some o→∀ i∈JR o,U i
def InU (U:Nat→Prop) (x:AV):Prop:=∀ id∈Zw x,U id
theorem Zv0 (h:Xe U hp hp') {x:AV} (hx:InU U x) (g:Bool) (s:Nat):Uu hp g s x=Uu hp' g s x:=by
 cases x<;>simp only[Uu]
 case ptr id off=>rw[h.same id (hx id (by simp[Zw,Zy,Zl]))]
 case prow id sz i off=>rw[h.same id (hx id (by simp[Zw,Zy,Zl]))]
theorem Znj (h:Xe U hp hp') {x:AV} (hx:InU U x) (sz n:Nat):QB hp sz n x=QB hp' sz n x:=by
 cases x<;>simp only[QB]
 case d x=>cases x<;>rfl
 case own id=>rw[h.same id (hx id (by simp[Zw,Zy,Zl]))]
 case ownv id off m=>rw[h.same id (hx id (by simp[Zw,Zy,Zl]))]
theorem Zuy (h:Xe U hp hp') {x:AV} (hx:InU U x) (s:Nat) (lo hi:Option AV):VX hp s lo hi x=VX hp' s lo hi x:=by
 cases x<;>simp only[VX]
 case d x=>cases x<;>rfl
 case own id=>rw[h.same id (hx id (by simp[Zw,Zy,Zl]))]
 case ownv id off m=>rw[h.same id (hx id (by simp[Zw,Zy,Zl]))]
theorem ZkH (h:Xe U hp hp') {x:AV} (hx:InU U x):Zd6 hp x=Zd6 hp' x:=by
 cases x<;>simp only[Zd6]
 case d x=>cases x<;>rfl
 case own id=>rw[h.same id (hx id (by simp[Zw,Zy,Zl]))]
theorem Zuz (h:Xe U hp hp') {x:AV} (hx:InU U x) (s:Nat) (z:D):ZfC hp s z x=ZfC hp' s z x:=by
 cases x<;>simp only[ZfC]
 case ownv id off m=>rw[h.same id (hx id (by simp[Zw,Zy,Zl]))]
theorem Zv1 (h:Xe U hp hp') {x:AV} (hx:InU U x) (flat:Bool):Zh0 hp flat x=Zh0 hp' flat x:=by
 cases x<;>simp only[Zh0]
 case d x=>cases x<;>rfl
 case own id=>rw[h.same id (hx id (by simp[Zw,Zy,Zl]))]
 case ownv id off m=>rw[h.same id (hx id (by simp[Zw,Zy,Zl]))]
theorem Zv2 (h:Xe U hp hp') {x:AV} (hx:InU U x) (sz b base:Nat) (aa:List Nat) (ys:List D) (ex:Bool):Zka hp sz b base aa ys ex x=Zka hp' sz b base aa ys ex x:=by
 cases x<;>simp only[Zka]
 case own id=>rw[h.same id (hx id (by simp[Zw,Zy,Zl]))]
 case ownv id off m=>rw[h.same id (hx id (by simp[Zw,Zy,Zl]))]
theorem ZsD (h:Xe U hp hp') {x:AV} (hx:InU U x):Zdx hp x=Zdx hp' x:=by
 cases x<;>simp only[Zdx]
 case own id=>rw[h.same id (hx id (by simp[Zw,Zy,Zl]))]
theorem ZsE (h:Xe U hp hp') {x:AV} (hx:InU U x) (s b base id n:Nat) (ys:List D):ZbN hp s b base id n ys x=ZbN hp' s b base id n ys x:=by
 cases x<;>simp only[ZbN]
 case own k=>rw[h.same k (hx k (by simp[Zw,Zy,Zl]))]
theorem ZjZ (h:Xe U hp hp') {x y:AV} (hx:InU U x) (hy:InU U y) (s b:Nat) (str flat:Bool) (base:Nat):J0 hp s b str flat base x y=J0 hp' s b str flat base x y:=by
 unfold J0;rw[Zv1 h hy];congr 1
 funext q
 rw[Zv2 h hx]
theorem Zl2 (h:Xe U hp hp') {x:AV} (hx:InU U x):XR hp x=XR hp' x:=by
 cases x<;>simp only[XR]
 case own id=>rw[h.same id (hx id (by simp[Zw,Zy,Zl]))]
theorem ZuA (h:Xe U hp hp') (ids:List Nat):Xe U (meltIn hp ids) (meltIn hp' ids):=by
 refine⟨fun id aa=>by rw[UP,UP,h.same id aa],fun id o aa hl=>?_⟩;rw[UP] at hl;cases hl0:lkp hp id with
 | none=>rw[hl0] at hl;cases hl
 | some o0=>
  rw[hl0] at hl;simp only[Lh,Option.some.injEq] at hl;subst hl;have:=h.closed id o0 aa hl0;split
  ·cases o0 with
   | tree s n xs l=>cases l<;>exact this
   | _=>exact this
  ·exact this
theorem Zj0 (h:Xe U hp hp') {x y:AV} (hx:InU U x) (hy:InU U y) (s b:Nat) (str flat:Bool) (base:Nat) (ms:List Nat):Vw hp s b str flat base x y ms=Vw hp' s b str flat base x y ms:=by
 cases ms with
 | nil=>exact ZjZ h hx hy s b str flat base
 | cons i r=>simp only[Vw];rw[ZjZ (ZuA h (i :: r)) hx hy]
theorem ZqU (h:Xe U hp hp') {x y:AV} (hx:InU U x) (hy:InU U y) (s b base:Nat):appT hp s b base x y=appT hp' s b base x y:=by
 unfold appT;rw[ZsD h hy];congr 2
 funext q
 rw[ZsE h hx]
theorem Zos (h:Xe U hp hp') {x:AV} (hx:∀ id∈Zl x,U id):Zby hp x=Zby hp' x:=by
 cases x<;>simp only[Zby]
 case own id=>rw[h.same id (hx id (by simp[Zl]))]
theorem ZhP (h:Xe U hp hp'):∀ {xs:List AV},(∀ id∈xs.flatMap Zl,U id)→V1 hp xs=V1 hp' xs
 | [],_=>rfl
 | x :: xs,hx=>by
  simp only[V1];rw[Zos h fun id aa=>hx id (by simp only[KF,Ke];exact .inl aa),ZhP h (xs:=xs) fun id aa=>hx id (by simp only[KF,Ke];exact .inr aa)]
theorem Zv3 (h:Xe U hp hp') {n:Nat} {x:AV} (hx:∀ id∈Zl x,U id):ZhZ hp n x=ZhZ hp' n x:=by
 cases x<;>simp only[ZhZ]
 case own id=>rw[h.same id (hx id (by simp[Zl]))]
theorem ZhQ (h:Xe U hp hp') {n:Nat}:∀ {xs:List AV},(∀ id∈xs.flatMap Zl,U id)→Wz hp n xs=Wz hp' n xs
 | [],_=>rfl
 | x :: xs,hx=>by
  simp only[Wz];rw[Zv3 h fun id aa=>hx id (by simp only[KF,Ke];exact .inl aa),ZhQ h (xs:=xs) fun id aa=>hx id (by simp only[KF,Ke];exact .inr aa)]
theorem Zj1 (h:Xe U hp hp') {n s:Nat}:∀ {xs:List AV},(∀ x∈xs,InU U x)→UF hp n s xs=UF hp' n s xs
 | [],_=>rfl
 | x :: xs,hx=>by
  cases x<;>simp only[UF]
  rename_i cs;rw[ZhQ h (hx (.agg cs) (by simp)),Zj1 h (xs:=xs) fun x hm=>hx x (Kv _ hm)]
theorem ZuB (h:Xe U hp hp') {base s n:Nat} {xs:List AV} (hx:∀ x∈xs,InU U x):buildT hp base s n xs=buildT hp' base s n xs:=by
 unfold buildT;rw[Zj1 h hx]
theorem ZuC (h:Xe U hp hp') {x:AV} (hx:InU U x) (slc:List (Option Nat)) (s base:Nat) (vs:List AV) (hv:∀ id∈vs.flatMap Zl,U id):Zbr hp slc s base vs x=Zbr hp' slc s base vs x:=by
 cases x<;>simp only[Zbr]
 case ptr id off=>rw[h.same id (hx id (by simp[Zw,Zy,Zl]))]
 case prow id sz i off=>
  rw[h.same id (hx id (by simp[Zw,Zy,Zl]))];unfold ZcP;rw[ZhP h hv];have ht:∀ n,Wz hp n vs=Wz hp' n vs:=fun n=>ZhQ h hv;simp only[ht]
theorem ZqV {x:AV} (hx:InU U x):∀ id∈x.cells.flatMap Zl,U id:=by
 intro id aa;refine hx id ?_;cases x<;>simp only[AV.cells] at aa<;>first
  | (simp[Zl] at aa;done)
  | (obtain⟨c,hc,ab⟩:=Ku.1 aa;obtain⟨y,_,rfl⟩:=Li.1 hc;simp[Zl] at ab;done)
  | (simpa [Zw,Zy,Zl] using aa)
theorem Zxq (h:Xe U hp hp') {x:AV} (hx:InU U x):give hp x=give hp' x:=by
 cases x with
 | agg cs=>simp only[give];rw[ZhP h hx]
 | own id=>exact Zos h (x:=.own id) hx
 | _=>rfl
theorem Zj2 (h:Xe U hp hp'):∀ {xs:List AV},(∀ x∈xs,InU U x)→WV hp xs=WV hp' xs
 | [],_=>rfl
 | x :: xs,hx=>by
  simp only[WV];rw[Zxq h (hx x (by simp)),Zj2 h (xs:=xs) fun y hy=>hx y (Kv _ hy)]
theorem Zfv (h:Xe U hp hp') {x:AV} (hx:∀ id∈Zl x,U id):ZiZ hp x=ZiZ hp' x:=by
 cases x<;>simp only[ZiZ]
 case own id=>rw[h.same id (hx id (by simp[Zl]))]
 case ownv id off n=>rw[h.same id (hx id (by simp[Zl]))]
theorem ZqW (h:Xe U hp hp'):∀ {xs:List AV},(∀ id∈xs.flatMap Zl,U id)→Qy (ZiZ hp) xs=Qy (ZiZ hp') xs
 | [],_=>rfl
 | x :: xs,hx=>by
  simp only[Qy];rw[Zfv h fun id aa=>hx id (by simp only[KF,Ke];exact .inl aa),ZqW h (xs:=xs) fun id aa=>hx id (by simp only[KF,Ke];exact .inr aa)]
theorem Ztn (h:Xe U hp hp') {x:AV} (hx:InU U x):toD hp x=toD hp' x:=by
 cases x with
 | agg cs=>simp only[toD];rw[ZqW h hx]
 | own id=>exact Zfv h (x:=.own id) hx
 | ownv id off n=>exact Zfv h (x:=.ownv id off n) hx
 | _=>rfl
theorem Zxr (h:Xe U hp hp') (m:Bool) {x:AV} (hx:InU U x):Zdb hp m x=Zdb hp' m x:=by
 cases x with
 | own id=>
  simp only[Zdb];cases m
  ·simp only[ZfD];rw[Zfv h (x:=.own id) hx]
  ·rfl
 | agg cs=>
  simp only[Zdb];cases m
  ·simp only[ZfE];rw[Ztn h hx]
  ·rfl
 | ownv id off n=>simp only[Zdb];rw[Ztn h hx]
 | _=>rfl
theorem ZqX (h:Xe U hp hp') (m:Nat→Bool):∀ {xs:List AV} (i:Nat),(∀ x∈xs,InU U x)→args hp m i xs=args hp' m i xs
 | [],i,_=>rfl
 | x :: xs,i,hx=>by
  simp only[args];rw[Zxr h (m i) (hx x (by simp)),ZqX h m (xs:=xs) (i+1) fun y hy=>hx y (Kv _ hy)]
theorem ZCp {m:Bool} {x y:AV} (hx:InU U x) (h:Zdb hp m x=some y):InU U y:=by
 unfold Zdb at h;split at h
 ·cases h;exact hx
 ·cases h;exact hx
 ·cases h;exact hx
 ·cases h;exact hx
 ·cases h;exact hx
 ·rename_i id;cases m
  ·simp only[ZfD,asD] at h;obtain⟨d,_,h⟩:=Za h;cases h;exact fun id aa=>by simp[Zw,Zy,Zl] at aa
  ·simp only[ZfD] at h;cases h;exact hx
 ·cases m
  ·simp only[Zh1] at h;cases h;exact fun id aa=>by simp[Zw,Zy,Zl] at aa
  ·simp only[Zh1] at h;cases h;exact hx
 ·cases h;exact hx
 ·cases m
  ·simp only[ZfE,asD] at h;obtain⟨d,_,h⟩:=Za h;cases h;exact fun id aa=>by simp[Zw,Zy,Zl] at aa
  ·simp only[ZfE] at h;split at h
   ·cases h
   ·cases h;exact hx
 ·obtain⟨d,_,h⟩:=Za h;cases h;exact fun id aa=>by simp[Zw,Zy,Zl] at aa
theorem ZyB {m:Nat→Bool}:∀ {xs ys:List AV} (i:Nat),(∀ x∈xs,InU U x)→args hp m i xs=some ys→∀ y∈ys,InU U y
 | [],ys,i,_,h=>by simp only[args] at h;cases h;simp
 | x :: xs,ys,i,hx,h=>by
  simp only[args] at h;obtain⟨y,h1,h⟩:=Za h;obtain⟨aa,h2,h⟩:=Za h;cases h;intro z hz;rcases Kf.1 hz with rfl | hz
  ·exact ZCp (hx x (by simp)) h1
  ·exact ZyB (i+1) (fun y hy=>hx y (by simp[hy])) h2 z hz
theorem Zds (h:Xe U hp hp'):∀ (n:Nat) (todo aa:List Nat),(∀ i∈todo,U i)→QZ hp n todo aa=QZ hp' n todo aa
 | 0,todo,aa,_=>by simp only[QZ]
 | n+1,[],aa,_=>by simp only[QZ]
 | n+1,id :: todo,aa,ht=>by
  simp only[QZ];rw[Zds h n todo aa fun i hi=>ht i (by simp[hi])];rw[← h.same id (ht id (by simp))];cases hl:lkp hp id with
  | none=>simp only[J1];rw[Zds h n todo aa fun i hi=>ht i (by simp[hi])]
  | some o=>
   simp only[J1];rw[Zds h n (todo++JR o) (aa++[id]) fun i hi=>by
    rcases Ke.1 hi with hi | hi
    ·exact ht i (by simp[hi])
    ·exact h.closed id o (ht id (by simp)) hl i hi]
theorem Zl3 (h:Xe U hp hp'):∀ (n:Nat) (todo aa:List Nat),(∀ i∈todo,U i)→(∀ i∈aa,U i)→∀ i∈QZ hp n todo aa,U i
 | 0,todo,aa,_,ha=>by simp only[QZ];exact ha
 | n+1,[],aa,_,ha=>by simp only[QZ];exact ha
 | n+1,id :: todo,aa,ht,ha=>by
  simp only[QZ];split
  ·exact Zl3 h n todo aa (fun i hi=>ht i (by simp[hi])) ha
  ·cases hl:lkp hp id with
   | none=>simp only[J1];exact Zl3 h n todo aa (fun i hi=>ht i (by simp[hi])) ha
   | some o=>
    simp only[J1];refine Zl3 h n (todo++JR o) (aa++[id]) (fun i hi=>?_) fun i hi=>?_
    ·rcases Ke.1 hi with hi | hi
     ·exact ht i (by simp[hi])
     ·exact h.closed id o (ht id (by simp)) hl i hi
    ·rcases Ke.1 hi with hi | hi
     ·exact ha i hi
     ·simp at hi;subst hi;exact ht i (by simp)
theorem ZqY (h:Xe U hp hp'):∀ {ids:List Nat},(∀ i∈ids,U i)→Zd9 hp ids=Zd9 hp' ids
 | [],_=>rfl
 | i :: ids,hi=>by simp only[Zd9,h.same i (hi i (by simp)),ZqY h (ids:=ids) fun j hj=>hi j (Kv _ hj)]
theorem ZqZ (h:Xe U hp hp') {base:Nat} {ids aa:List Nat} (hi:∀ i∈ids,U i) (hl:∀ i∈aa,U i) (keep:Bool) (r:AV) (out:List Zn):Zbe keep hp base ids aa r out=Zbe keep hp' base ids aa r out:=by
 unfold Zbe;have:Znt hp ids out keep=Znt hp' ids out keep:=by
  cases keep
  ·exact List.filter_congr fun i hm=>by rw[h.same i (hi i hm)]
  ·rfl
 have h2:∀ {l:List Nat},(∀ i∈l,U i)→(l.any fun i=>ZcV (lkp hp i))=l.any fun i=>ZcV (lkp hp' i):=by
  intro l
  induction l with
  | nil=>intro _;rfl
  | cons i l ih=>intro hl;simp only[List.any_cons];rw[h.same i (hl i (by simp)),ih fun k hk=>hl k (by simp[hk])]
 rw[this,h2 hl]
theorem ZA5 (x:AV):∀ i∈Zdp x,i∈Zl x:=by
 intro i hi;cases x<;>simp only[Zdp,Zl] at hi ⊢ <;> first | exact hi | (simp at hi)
theorem Zzm (x:AV):∀ i∈Zfr x,i∈Zw x:=by
 intro i hi;cases x with
 | agg cs=>
  obtain⟨c,hc,hi⟩:=Ku.1 hi;exact Ku.2 ⟨c,hc,ZA5 c i hi⟩
 | own id=>exact hi
 | ownv id a b=>exact hi
 | _=>simp[Zfr,Zdp] at hi
theorem Zto:∀ {xs ys:List AV},(∀ x∈xs,InU U x)→∀ i∈YN xs ys,U i
 | [],ys,_,i,hi=>by cases ys<;>simp[YN] at hi
 | x :: xs,[],_,i,hi=>by simp[YN] at hi
 | x :: xs,y :: ys,hx,i,hi=>by
  have ih:=Zto (ys:=ys) fun z hz=>hx z (Kv _ hz);cases y<;>simp only[YN] at hi<;>first | exact ih i hi | skip
  rcases Ke.1 hi with hi | hi
  ·exact hx x (by simp) i (Zzm x i hi)
  ·exact ih i hi
theorem Zj3 (h:Xe U hp hp') (rs:List Nat):∀ {ids:List Nat},(∀ i∈ids,U i)→ZbM hp rs ids=ZbM hp' rs ids
 | [],_=>rfl
 | i :: ids,hi=>by
  have ih:=Zj3 h rs (ids:=ids) fun k hk=>hi k (by simp[hk]);simp only[ZbM,LG] at ih ⊢;rw[ih,h.1 i (hi i (by simp))]
theorem Zv4 (h:Xe U hp hp') (C:Orc) (m:Nat→Bool) (base f:Nat) {ab:List AV} (hx:∀ x∈ab,InU U x):Zdw C m hp base f ab=Zdw C m hp' base f ab:=by
 unfold Zdw;rw[← ZqX h m 0 hx];cases ha:args hp m 0 ab with
 | none=>rfl
 | some as=>
  simp only[bnd];have ad:=ZyB 0 hx ha;have ht:∀ i∈as.flatMap Zw,U i:=fun i hi=>by
   obtain⟨y,hy,hi⟩:=Ku.1 hi;exact ad y hy i hi
  have hf:XQ hp=XQ hp':=rfl;rw[hf,← Zds h (XQ hp') (as.flatMap Zw) [] ht];have aa:=Zl3 h (XQ hp') (as.flatMap Zw) [] ht (by simp);unfold ZfF;rw[ZqY h aa,Zj3 h _ aa];congr 1
  congr 1
  funext q
  exact ZqZ h aa (Zto hx) (m 99) q.1 q.2
theorem clo_in {f:Nat} {aa:List AV} (h:InU U (.clo f aa)):∀ x∈aa,x.atom=true→InU U x:=by
 intro x hx ha id ab;refine h id (Ku.2 ⟨x,hx,?_⟩);cases x<;>first | exact ab | (simp[AV.atom] at ha)
end
end Go.Abs
set_option linter.unusedVariables false
set_option linter.unusedSimpArgs false
namespace Go.Abs
open Go
section
variable {U:Nat→Prop} {hp hp' : Hp}
def Zl4 (U:Nat→Prop) (x:AV):Prop:=InU U x∧∀ f caps,x=.clo f caps→∀ c∈caps,InU U c
theorem ZiD {sl:Sl}:∀ {xs:List Opd} {v:AV},v∈evL sl xs→∃ x∈xs,v=evO sl x
 | [],v,h=>by simp[evL] at h
 | x :: xs,v,h=>by
  simp only[evL] at h;rcases Kf.1 h with rfl | h
  ·exact⟨x,by simp,rfl⟩
  ·obtain⟨y,h1,h2⟩:=ZiD h;exact⟨y,Kv _ h1,h2⟩
theorem Zax (h:Xe U hp hp') (C:Orc) (M:Zm) {sl:Sl} (base:Nat) {c:COp} (hx:∀ x∈ZD c,Zl4 U (evO sl x)):vop C M sl hp base c=vop C M sl hp' base c:=by
 cases c<;>simp only[ZD] at hx<;>simp only[vop]
 case buildSl s xs=>
  cases hv:evL sl xs with
  | nil=>rfl
  | cons v vs=>
   simp only[buildSl];rw[Zj2 h];intro y hy;rw[← hv] at hy;obtain⟨z,h1,rfl⟩:=ZiD hy;exact(hx z h1).1
 case load g s a=>rw[Zv0 h (hx a (by simp)).1]
 case store slc s a x=>rw[ZuC h (hx a (by simp)).1 _ _ _ _ (ZqV (hx x (by simp)).1)]
 case slice s x lo hi=>rw[Zuy h (hx x (by simp)).1]
 case slice0 x hi mx=>unfold slice0;rw[ZkH h (hx x (by simp)).1]
 case slice3 s x lo hi mx=>unfold slice3;rw[ZkH h (hx x (by simp)).1]
 case clear s z x=>rw[Zuz h (hx x (by simp)).1]
 case iaS s x i=>
  congr 1
  funext n
  simp only[Zkb];rw[Znj h (hx x (by simp)).1]
 case len x=>rw[ZkH h (hx x (by simp)).1]
 case append s b str flat x y=>
  simp only[Zwz];rw[Zl2 h (hx x (by simp)).1,Zl2 h (hx y (by simp)).1];generalize XR hp' (evO sl x)=mx;generalize XR hp' (evO sl y)=my;cases mx with
  | nil=>simp only[Zeb];rw[Zj0 h (hx x (by simp)).1 (hx y (by simp)).1]
  | cons i r=>
   cases my with
   | nil=>simp only[Zeb];rw[Zj0 h (hx x (by simp)).1 (hx y (by simp)).1]
   | cons j t=>simp only[Zeb];rw[ZqU h (hx x (by simp)).1 (hx y (by simp)).1]
 case appT s b f x y=>exact ZqU h (hx x (by simp)).1 (hx y (by simp)).1 s b base
 case buildT s n xs=>
  refine ZuB h fun y hy=>?_;obtain⟨z,h1,rfl⟩:=ZiD hy;exact(hx z h1).1
 case call f as=>
  have hf:=hx f (by simp);cases he:evO sl f<;>simp only[Zec]
  rename_i g aa;refine Zv4 h C (M g) base g fun y hy=>?_;rcases Ke.1 hy with hy | hy
  ·obtain⟨z,h1,rfl⟩:=ZiD hy;exact(hx z (by simp[h1])).1
  ·exact hf.2 g aa he y hy
theorem Ztp {Γ:Gh} {w:World} {I:Nat→Prop} {x:AV} {v:Value} (h:YS Γ w I x v):∀ id∈Zl x,∃ r,Γ id=some r:=by
 intro id aa;cases x<;>simp only[Zl,KP,L9,Kf,or_false] at aa
 case ptr i off=>subst aa;obtain⟨b,h1,_⟩:=h;exact⟨_,h1⟩
 case prow i sz k off=>subst aa;obtain⟨b,n,c,h1,_⟩:=h;exact⟨_,h1⟩
 case own i=>subst aa;obtain⟨a,n,c,sz,h1,_⟩:=h;exact⟨_,h1⟩
 case ownv i off n=>subst aa;obtain⟨a0,m,c,sz,a,h1,_⟩:=h;exact⟨_,h1⟩
 case bnil i e=>subst aa;obtain⟨b,h1,_⟩:=h;exact⟨_,h1⟩
theorem Znk {Γ:Gh} {w:World} {I:Nat→Prop}:∀ {xs:List AV} {vs:List Value},Zx (YS Γ w I) xs vs→∀ id∈xs.flatMap Zl,∃ r,Γ id=some r
 | [],[],_,id,aa=>by simp at aa
 | [],_ :: _,h,_,_=>h.elim
 | _ :: _,[],h,_,_=>h.elim
 | x :: xs,v :: vs,h,id,aa=>by
  simp only[KF,Ke] at aa;rcases aa with aa | aa
  ·exact Ztp h.1 id aa
  ·exact Znk h.2 id aa
theorem Znl {Γ:Gh} {w:World} {I:Nat→Prop} {x:AV} {v:Value} (h:JW Γ w I x v):∀ id∈Zy x,∃ r,Γ id=some r:=by
 intro id aa;by_cases hs:x.small=true
 ·rw[(Yz hs (fun k=>k) []).2.2.2.2.2] at aa;rw[(WW hs v).2.1] at h;exact Ztp h id aa
 ·cases x with
  | agg cs=>obtain⟨us,_,h2⟩:=h;exact Znk h2 id aa
  | clo f cs=>obtain⟨us,_,h2⟩:=h;exact Znk h2 id aa
  | tup cs=>exact h.elim
  | d x=>simp[Zy,Zl] at aa
  | _=>exact absurd rfl hs
theorem Zzn {Γ:Gh} {w:World} {I:Nat→Prop} {x:AV} {v:Value} (h:XI Γ w I x v):∀ id∈Zy x,∃ r,Γ id=some r:=Znl h.rep2
theorem Zq0 {Γ:Gh} {w:World} {I:Nat→Prop}:∀ {xs:List AV} {vs:List Value},Zx (JW Γ w I) xs vs→∀ id∈xs.flatMap Zy,∃ r,Γ id=some r
 | [],[],_,id,aa=>by simp at aa
 | [],_ :: _,h,_,_=>h.elim
 | _ :: _,[],h,_,_=>h.elim
 | x :: xs,v :: vs,h,id,aa=>by
  simp only[KF,Ke] at aa;rcases aa with aa | aa
  ·exact Znl h.1 id aa
  ·exact Zq0 h.2 id aa
theorem Zv5 {Γ:Gh} {w:World} {I:Nat→Prop} {x:AV} {v:Value} (h:Rep Γ w I x v):∀ id∈Zw x,∃ r,Γ id=some r:=by
 intro id aa;by_cases ht:∃ vs,x=.tup vs
 ·obtain⟨vs,rfl⟩:=ht;obtain⟨us,_,h2⟩:=h;exact Zq0 h2 id aa
 ·have e:Rep Γ w I x v=JW Γ w I x v:=by cases x<;>first | rfl | exact absurd ⟨_,rfl⟩ ht
  rw[e] at h;refine Znl h id ?_;cases x<;>first | exact aa | exact absurd ⟨_,rfl⟩ ht
theorem Zq1 {Γ:Gh} {w:World} {I:Nat→Prop}:∀ {xs:List AV} {vs:List Value},Zx (XI Γ w I) xs vs→∀ id∈xs.flatMap Zy,∃ r,Γ id=some r
 | [],[],_,id,aa=>by simp at aa
 | [],_ :: _,h,_,_=>h.elim
 | _ :: _,[],h,_,_=>h.elim
 | x :: xs,v :: vs,h,id,aa=>by
  simp only[KF,Ke] at aa;rcases aa with aa | aa
  ·exact Zzn h.1 id aa
  ·exact Zq1 h.2 id aa
theorem ZA6 {Γ:Gh} {w:World} {I:Nat→Prop} {x:AV} {v:Value} (hn:∀ id,¬U id→Γ id=none) (h:Rep Γ w I x v):Zl4 U x:=by
 have ab:∀ id,(∃ r,Γ id=some r)→U id:=fun id ⟨r,hr⟩=>Classical.byContradiction fun hu=>by rw[hn id hu] at hr;cases hr
 refine⟨fun id aa=>ab id (Zv5 h id aa),fun f ad hx c hc=>?_⟩;subst hx;obtain⟨us,_,h2⟩:=h;obtain⟨i,hi⟩:=LD hc;obtain⟨u,_,h3⟩:=h2.get i c hi;exact fun id aa=>ab id (Zv5 h3.rep2.rep id aa)
end
section
variable {P:Program} {nt:Nat} {F A I:Nat→Prop} {Γ:Gh} {U:Nat→Prop} {sl:Sl} {hp:Hp} {a:Act} {w:World}
theorem Sim.good (h:Sim nt F A I Γ U sl hp a w) (t:Nat):Zl4 U (gs sl t):=ZA6 h.names (h.slots t)
theorem Sim.agree (h:Sim nt F A I Γ U sl hp a w) {hp' : Hp} (hs:∀ id,U id→lkp hp id=lkp hp' id):Xe U hp hp':=by
 refine⟨hs,fun id o hu hl i hi=>?_⟩;have ho:=h.objs id o hl;cases o with
 | box cs=>
  obtain⟨b,cur,e,_,_,_,_,h5,_⟩:=ho;obtain⟨r,hr⟩:=Zq1 h5 i hi;exact Classical.byContradiction fun hu=>by rw[h.names i hu] at hr;cases hr
 | row sz xs ex fz=>simp[JR] at hi
 | gone=>simp[JR] at hi
 | tree sz ns xs lk=>simp[JR] at hi
theorem Oper.wp_ex {o:Oper} {a:Act} {w:World} {K:Act→World→Prop} (h:o.wp P a w K (fun _ _ _=>False)):∃ a' w',K a' w':=by
 unfold Oper.wp at h;generalize (execOp a.eval o).run P w=r at h;cases r with
 | ok n w' =>
  cases n<;>simp only[Oper.upon] at h
  case value v=>exact⟨_,_,h⟩
  case skip=>exact⟨_,_,h⟩
  case defer d=>exact⟨_,_,h⟩
  case enter f args=>
   obtain⟨e,aa,fr,he,_⟩:=h [];cases e with
   | returned v=>exact⟨_,_,he⟩
   | panicked c=>exact he.elim
   | outgrown=>obtain⟨a,w,hf⟩:=he;exact hf.elim
  case row row args=>
   obtain⟨v,aa,he,_⟩:=h default [];exact⟨_,_,he⟩
 | halt x w'=>cases x<;>simp only[Oper.upon] at h
end
end Go.Abs
set_option linter.unusedVariables false
set_option linter.unusedSimpArgs false
namespace Go.Abs
open Go
def XK (s s' : Sl×Hp):Prop:=(∀ t,gs s.1 t=gs s'.1 t)∧∀ id,lkp s.2 id=lkp s'.2 id
theorem XK.refl (s:Sl×Hp):XK s s:=⟨fun _=>rfl,fun _=>rfl⟩
theorem XK.symm {s s' : Sl×Hp} (h:XK s s'):XK s' s:=⟨fun t=>(h.1 t).symm,fun id=>(h.2 id).symm⟩
theorem XK.trans {a b c:Sl×Hp} (h:XK a b) (k:XK b c):XK a c:=⟨fun t=>(h.1 t).trans (k.1 t),fun id=>(h.2 id).trans (k.2 id)⟩
theorem ZbJ:∀ (l:Hp) {hp hp' : Hp},(∀ id,lkp hp id=lkp hp' id)→∀ id,lkp (Zi hp l) id=lkp (Zi hp' l) id
 | [],_,_,h=>h
 | (k,o) :: r,hp,hp',h=>by
  simp only[Zi];exact ZbJ r fun id=>by rw[Qu,Qu,h id]
theorem Zl5:∀ (l:List Nat) {hp hp' : Hp},(∀ id,lkp hp id=lkp hp' id)→∀ id,lkp (Qf hp l) id=lkp (Qf hp' l) id
 | [],_,_,h=>h
 | d :: r,hp,hp',h=>by
  simp only[Qf];exact Zl5 r fun id=>by rw[ZfX,ZfX,h id]
theorem ZA7 (ce:Zf) (dst:Option Nat) {s s' : Sl×Hp} (h:XK s s'):XK (ce.on dst s.1 s.2) (ce.on dst s'.1 s'.2):=by
 refine⟨fun t=>?_,fun id=>?_⟩
 ·show gs (Zr (Xa ce.gone s.1) dst ce.eff.val) t=gs (Zr (Xa ce.gone s'.1) dst ce.eff.val) t;rw[Qx,Qx,QO,QO,h.1 t]
 ·exact ZbJ _ (ZbJ _ (Zl5 _ fun id=>by rw[Qe,Qe,Wu,Wu,h.2 id])) id
noncomputable def ZM (C:Orc) (M:Zm) (nx i:Nat) (t:Bool) (o:CO) (s:Sl×Hp):Option (Sl×Hp):=
 bnd (ZY s.1 o.guard) fun b=>if b then YD (nx+64*i) o.dst s.1 s.2 (V9 C M nx i t o.op s.1 s.2) else some (Zr s.1 o.dst (.tup []),s.2)
noncomputable def ZE (C:Orc) (M:Zm) (os:List CO) (nx i:Nat) (s:Sl×Hp):Option (Sl×Hp):=bnd os[i]? fun o=>ZM C M nx i (ZV os i) o s
noncomputable def Zfw (C:Orc) (M:Zm) (os:List CO) (nx:Nat):List Nat→Sl×Hp→Option (Sl×Hp)
 | [],s=>some s
 | i :: l,s=>bnd (ZE C M os nx i s) (Zfw C M os nx l)
theorem ZkI (C:Orc) (M:Zm) (os:List CO) (nx:Nat):∀ (aa:List CO) (i:Nat) (t:Bool) (sl:Sl) (hp:Hp),os.drop i=aa →
  Zah C M nx i t aa sl hp=Zfw C M os nx (List.range' i aa.length) (sl,hp)
 | [],i,t,sl,hp,_=>rfl
 | o :: aa,i,t,sl,hp,hd=>by
  have h1:os[i]?=some o:=by
   have:(os.drop i)[0]?=some o:=by rw[hd];rfl
   rw[Le] at this;simpa using this
  have h2:os.drop (i+1)=aa:=by rw[← KaA,hd];rfl
  have h4:CO.starts o=ZV os i:=by simp only[ZV,h1]
  simp only[Zah,Kq,List.range'_succ,Zfw,ZE,h1,Zg,ZM,h4];cases hw:ZY sl o.guard with
  | none=>rfl
  | some b=>
   cases b with
   | true=>
    simp only[Zg,Km];cases hs:YD (nx+64*i) o.dst sl hp (V9 C M nx i (ZV os i) o.op sl hp) with
    | none=>rfl
    | some r=>
     simp only[Zg];exact ZkI C M os nx aa (i+1) t r.1 r.2 h2
   | false=>
    simp only[Zg,Ka,Kk];exact ZkI C M os nx aa (i+1) t _ _ h2
theorem Zxs {hp hp' : Hp} (h:∀ id,lkp hp id=lkp hp' id):Xe (fun _=>True) hp hp':=⟨fun id _=>h id,fun _ _ _ _ _ _=>trivial⟩
theorem Zzo (C:Orc) (M:Zm) {s s' : Sl×Hp} (h:XK s s') (base:Nat) (c:COp):vop C M s.1 s.2 base c=vop C M s'.1 s'.2 base c:=by
 have h1:∀ x:Opd,evO s.1 x=evO s'.1 x:=fun x=>by cases x<;>simp only[evO];exact h.1 _
 rw[Xb C M s.2 base (sl:=s.1) (sl':=s'.1) fun x _=>h1 x];exact Zax (Zxs h.2) C M base fun x _=>⟨fun _ _=>trivial,fun _ _ _ _ _ _ _=>trivial⟩
theorem Zv6 {s s' : Sl×Hp} (h:XK s s') (g:Option (Nat×Bool)):ZY s.1 g=ZY s'.1 g:=by
 cases g with
 | none=>rfl
 | some q=>simp only[ZY,h.1]
theorem Zv7 {C:Orc} {M:Zm} {os:List CO} {nx i:Nat} {s s' r:Sl×Hp} (h:XK s s') (hr:ZE C M os nx i s=some r):∃ r',ZE C M os nx i s'=some r'∧XK r r':=by
 unfold ZE at hr ⊢;obtain⟨o,h1,hr⟩:=Za hr;rw[h1,Zg];unfold ZM at hr ⊢;obtain⟨b,h2,hr⟩:=Za hr;rw[← Zv6 h,h2,Zg];cases b with
 | true=>
  simp only[Km] at hr ⊢;obtain⟨ce,h3,h4,rfl⟩:=Xo hr;have h5:V9 C M nx i (ZV os i) o.op s'.1 s'.2=some ce:=by
   rw[← h3];unfold V9;rw[Zzo C M h]
  refine⟨ce.on o.dst s'.1 s'.2,?_,ZA7 ce o.dst h⟩;unfold YD;rw[h5,Zg,Kj h4]
 | false=>
  simp only[Ka,Kk] at hr ⊢;cases hr;refine⟨_,rfl,fun t=>?_,h.2⟩;show gs (Zr s.1 o.dst (.tup [])) t=gs (Zr s'.1 o.dst (.tup [])) t;rw[Qx,Qx,h.1 t]
theorem Zq2 {C:Orc} {M:Zm} {os:List CO} {nx:Nat}:∀ {l:List Nat} {s s' r:Sl×Hp},XK s s'→Zfw C M os nx l s=some r→∃ r',Zfw C M os nx l s'=some r'∧XK r r'
 | [],s,s',r,h,hr=>by simp only[Zfw] at hr ⊢;cases hr;exact⟨s',rfl,h⟩
 | i :: l,s,s',r,h,hr=>by
  simp only[Zfw] at hr ⊢;obtain⟨s1,h1,hr⟩:=Za hr;obtain⟨aa,h2,h3⟩:=Zv7 h h1;rw[h2,Zg];exact Zq2 h3 hr
theorem Qz {sl:Sl} {d:Option Nat} {v:AV} {o:CO} (h:QN d (Y6 o)=true):ZY (Zr sl d v) o.guard=ZY sl o.guard:=by
 cases hg:o.guard with
 | none=>rfl
 | some q=>
  simp only[ZY];rw[Qx,Kg];intro e;rw[e] at h;simp[QN,Y6,hg,ZrG] at h
theorem Ww {sl:Sl} {d:Option Nat} {v:AV} {o:CO} (h:QN d (Y6 o)=true):∀ x∈ZD o.op,evO (Zr sl d v) x=evO sl x:=by
 intro x hx;cases x with
 | t n=>
  simp only[evO];rw[Qx,Kg];intro e;rw[e] at h;simp only[QN,Y6,La,KS,Lf] at h;exact h (Ke.2 (.inl (Ku.2 ⟨_,hx,by simp[Zbs]⟩)))
 | _=>rfl
theorem ZkJ {C:Orc} {M:Zm} {nx i:Nat} {o:CO} {s s' : Sl×Hp} (h:ZM C M nx i false o s=some s') :
  ∃ v adds,s'=(Zr s.1 o.dst v,Zi s.2 adds)∧(∀ k x,(k,x)∈adds→nx+64*i≤k∧k<nx+64*i+64) ∧
   ∀ aa : Sl×Hp,ZY aa.1 o.guard=ZY s.1 o.guard→vop C M aa.1 aa.2 (nx+64*i) o.op=vop C M s.1 s.2 (nx+64*i) o.op→ZM C M nx i false o aa=some (Zr aa.1 o.dst v,Zi aa.2 adds):=by
 unfold ZM at h;obtain⟨b,hw,h⟩:=Za h;cases b with
 | true=>
  simp only[Km] at h;obtain⟨ce,h1,h2,rfl⟩:=Xo h;unfold V9 at h1;simp only[Ka,Kk] at h1;have ad:=h1;unfold Zc4 at h1;obtain⟨c,h3,h1⟩:=Za h1;unfold ZfQ at h1;split at h1
  ·rename_i e1 e2 e3 e4;cases h1;have ab:∀ s:Sl×Hp,ce.on o.dst s.1 s.2=(Zr s.1 o.dst ce.eff.val,Zi s.2 ce.eff.adds):=by
    intro s;unfold Zf.on Eff.on;rw[e1,e2,e3,e4];rfl
   refine⟨ce.eff.val,ce.eff.adds,ab s,U6 h2,fun aa g1 g2=>?_⟩;unfold ZM;rw[g1,hw,Zg];simp only[Km];unfold YD V9;simp only[Ka,Kk];rw[g2,ad,Zg,Kj h2,ab]
  ·cases h1
 | false=>
  simp only[Ka,Kk] at h;cases h;refine⟨.tup [],[],rfl,fun k x hk=>by simp at hk,fun aa g1 g2=>?_⟩;unfold ZM;rw[g1,hw,Zg];rfl
theorem JU {U:Nat→Prop} {a:AV} (h:YT (.v a)=true):Zl4 U a:=by
 simp only[YT,Kd,List.isEmpty_iff,La] at h;refine⟨fun id aa=>by rw[h.1] at aa;simp at aa,fun f ab hx=>?_⟩;subst hx;simp[Zte] at h
section
variable {P:Program} {nt:Nat}
def Zj4 (nt:Nat) (s:Sl×Hp) (U:Nat→Prop):Prop:=∃ F A I Γ a w,Sim nt F A I Γ U s.1 s.2 a w
theorem Wx {U:Nat→Prop} {base:Nat} (hf:Xd U base) {adds:Hp} (ha:∀ k x,(k,x)∈adds→base≤k∧k<base+64) (hp:Hp):∀ id,U id→lkp hp id=lkp (Zi hp adds) id:=by
 intro id hu;rw[ZC];intro o ho;obtain⟨h1,h2⟩:=ha id o ho;exact hf id h1 h2 hu
theorem Us {sl:Sl} {d e:Option Nat} (h:ZaD d e=true) (u v:AV) (t:Nat):gs (Zr (Zr sl d u) e v) t=gs (Zr (Zr sl e v) d u) t:=by
 simp only[Qx];by_cases h1:e=some t
 ·by_cases h2:d=some t
  ·rw[h1,h2] at h;simp[ZaD] at h
  ·simp[h1,h2]
 ·simp[h1]
theorem ZA8 {adds aa : Hp} {b b' : Nat} (ha:∀ k x,(k,x)∈adds→b≤k∧k<b+64) (ad : ∀ k x,(k,x)∈aa→b'≤k∧k<b'+64) (hd:b+64≤b'∨b'+64≤b) (hp:Hp) (id:Nat) :
  lkp (Zi (Zi hp adds) aa) id=lkp (Zi (Zi hp aa) adds) id:=by
 have ab:∀ (l:Hp) (hp hp' : Hp),(∀ o,(id,o)∉l)→lkp (Zi hp l) id=lkp hp id:=fun l hp _ h=>ZC l hp id h;by_cases h1:∃ o,(id,o)∈adds
 ·have h2:∀ o,(id,o)∉aa:=fun o ho=>by
   obtain⟨o',ae⟩:=h1;have:=ha id o' ae;have:=ad id o ho;omega
  rw[ZC aa _ id h2];have ab:∀ (l:Hp) (hp hp' : Hp),lkp hp id=lkp hp' id→lkp (Zi hp l) id=lkp (Zi hp' l) id:=by
   intro l
   induction l with
   | nil=>intro hp hp' h;exact h
   | cons q r ih=>
    intro hp hp' h;obtain⟨k,x⟩:=q;simp only[Zi];exact ih _ _ (by rw[Qu,Qu,h])
  exact ab adds _ _ (ZC aa hp id h2).symm
 ·have h2:∀ o,(id,o)∉adds:=fun o ho=>h1 ⟨o,ho⟩;rw[ZC adds _ id h2];have ab:∀ (l:Hp) (hp hp' : Hp),lkp hp id=lkp hp' id→lkp (Zi hp l) id=lkp (Zi hp' l) id:=by
   intro l
   induction l with
   | nil=>intro hp hp' h;exact h
   | cons q r ih=>
    intro hp hp' h;obtain⟨k,x⟩:=q;simp only[Zi];exact ih _ _ (by rw[Qu,Qu,h])
  exact ab aa _ _ (ZC adds hp id h2)
theorem Zq3 {C:Orc} {M:Zm} {os:List CO} {nx i j:Nat} {oi oj:CO} (an:os[i]?=some oi) (ab:os[j]?=some oj) (ae:ZV os j=false) (ao:i≠j) (af:XB oj oi=true)
  (ad:∀ (k:Nat) (o:CO),os[k]?=some o→∀ x∈ZD o.op,YT x=true) {s s1 s2:Sl×Hp} {U:Nat→Prop} (hs:Zj4 nt s U) (ap:Xd U (nx+64*i)) (aq:Xd U (nx+64*j))
  (h1:ZE C M os nx j s=some s1) (h2:ZM C M nx i false oi s1=some s2):∃ t1,ZM C M nx i false oi s=some t1∧∃ t2,ZE C M os nx j t1=some t2∧XK t2 s2:=by
 obtain⟨F,A,I,Γ,a,w,aa⟩:=hs;simp only[XB,Kd] at af;obtain⟨⟨ag,ar⟩,ah⟩:=af;have good:∀ (k:Nat) (o:CO),os[k]?=some o→∀ x∈ZD o.op,Zl4 U (evO s.1 x):=by
  intro k o ho x hx;cases x with
  | t n=>exact aa.good n
  | v y=>exact JU (ad k o ho _ hx)
  | f n=>exact⟨fun id au=>by simp[evO,Zw,Zy] at au,fun f av h c hc=>by cases h;simp at hc⟩
 simp only[ZE,ab,Zg,ae] at h1;obtain⟨vj,aj,rfl,ak,aw⟩:=ZkJ h1;obtain⟨vi,ai,rfl,al,am⟩:=ZkJ h2;dsimp only at am;have e1:ZM C M nx i false oi s=some (Zr s.1 oi.dst vi,Zi s.2 ai):=by
  refine am s (Qz ag).symm ?_;rw[Xb C M (Zi s.2 aj) (nx+64*i) (Ww (o:=oi) ag)];exact Zax (aa.agree (Wx aq ak s.2)) C M _ (good i oi an)
 refine⟨_,e1,?_⟩;have e2:ZM C M nx j false oj (Zr s.1 oi.dst vi,Zi s.2 ai)=some (Zr (Zr s.1 oi.dst vi) oj.dst vj,Zi (Zi s.2 ai) aj):=by
  refine aw (Zr s.1 oi.dst vi,Zi s.2 ai) (Qz ah) ?_;rw[Xb C M (Zi s.2 ai) (nx+64*j) (Ww (o:=oj) ah)];exact(Zax (aa.agree (Wx ap al s.2)) C M _ (good j oj ab)).symm
 refine⟨_,by simp only[ZE,ab,Zg,ae];exact e2,fun t=>?_,fun id=>?_⟩
 ·exact(Us ar vj vi t).symm
 ·refine ZA8 al ak ?_ s.2 id;rcases LZ ao with h | h
  ·left;omega
  ·right;omega
theorem Zzp {C:Orc} {M:Zm} {os:List CO} {nx i j:Nat} {oi oj:CO} (ab:os[i]?=some oi) (ad:os[j]?=some oj) (ae:ZV os i=false) (af:ZV os j=false) (ag:i≠j) (ah:XB oj oi=true)
  (aa:∀ (k:Nat) (o:CO),os[k]?=some o→∀ x∈ZD o.op,YT x=true) {s s1 s2:Sl×Hp} {U:Nat→Prop} (hs:Zj4 nt s U) (ai:Xd U (nx+64*i)) (aj:Xd U (nx+64*j))
  (h1:ZE C M os nx j s=some s1) (h2:ZE C M os nx i s1=some s2):∃ t1,ZE C M os nx i s=some t1∧∃ t2,ZE C M os nx j t1=some t2∧XK t2 s2:=by
 have e:∀ s:Sl×Hp,ZE C M os nx i s=ZM C M nx i false oi s:=fun s=>by simp only[ZE,ab,Zg,ae]
 rw[e] at h2;simp only[e];exact Zq3 ab ad af ag ah aa hs ai aj h1 h2
end
end Go.Abs
