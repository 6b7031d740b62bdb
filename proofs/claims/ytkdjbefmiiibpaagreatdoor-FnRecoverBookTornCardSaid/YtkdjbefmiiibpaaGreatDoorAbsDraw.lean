/- The abstract semantics: what an operation looks at. Own text. -/
import Derived.Test.YtkdjbefmiiibpaaGreatDoorAbsSound2
set_option linter.unusedVariables false
set_option linter.unusedSimpArgs false
namespace Go.Abs
open Go
theorem Zgq {sl sl' : Sl}:∀ {xs:List Opd},(∀ x∈xs,evO sl x=evO sl' x)→evL sl xs=evL sl' xs
 | [],_=>rfl
 | x :: xs,h=>by simp only[evL,h x (by simp),Zgq (xs:=xs) fun y hy=>h y (List.mem_cons_of_mem _ hy)]
theorem ZrJ {sl sl' : Sl}:∀ {xs:List (Nat×Nat×Opd)},(∀ x∈xs.map (fun q=>q.2.2),evO sl x=evO sl' x)→evP sl xs=evP sl' xs
 | [],_=>rfl
 | (a,b,x) :: xs,h=>by simp only[evP,h x (by simp),ZrJ (xs:=xs) fun y hy=>h y (by simp only[List.map_cons,List.mem_cons];exact .inr hy)]
theorem Zjt {sl sl' : Sl} {x:Option Opd} (h:∀ y∈ZmM x,evO sl y=evO sl' y):evM sl x=evM sl' x:=by
 cases x with
 | none=>rfl
 | some y=>simp only[evM,h y (by simp[ZmM])]
theorem X7 (C:Orc) (M:Zt) {sl sl' : Sl} (hp:Hp) (base:Nat):∀ {c:COp},(∀ x∈ZT c,evO sl x=evO sl' x)→vop C M sl hp base c=vop C M sl' hp base c:=by
 intro c h
 cases c<;>simp only[ZT] at h<;>simp only[vop]
 case move x=>rw[h x (by simp)]
 case assign s x=>rw[h x (by simp)]
 case pick c a b=>rw[h c (by simp),h a (by simp),h b (by simp)]
 case box x=>rw[h x (by simp)]
 case build zs ps=>rw[ZrJ h]
 case buildSl s xs=>rw[Zgq h]
 case load g s a=>rw[h a (by simp)]
 case store slc s a x=>rw[h a (by simp),h x (by simp)]
 case nilCheck x=>rw[h x (by simp)]
 case bin op eq x y=>rw[h x (by simp),h y (by simp)]
 case un op x=>rw[h x (by simp)]
 case eqA neg n x y=>rw[h x (by simp),h y (by simp)]
 case convI k x=>rw[h x (by simp)]
 case convS x=>rw[h x (by simp)]
 case fn f cs=>rw[Zgq h]
 case make s b z l c=>rw[h l (by simp),h c (by simp)]
 case slice s x lo hi=>rw[h x (by simp),Zjt fun y hy=>h y (by simp[hy]),Zjt (x:=hi) fun y hy=>h y (by simp[hy])]
 case sliceS x lo hi=>rw[h x (by simp),Zjt fun y hy=>h y (by simp[hy]),Zjt (x:=hi) fun y hy=>h y (by simp[hy])]
 case slice0 x hi mx=>rw[h x (by simp),h hi (by simp),h mx (by simp)]
 case shift off x=>rw[h x (by simp)]
 case part g s off x=>rw[h x (by simp)]
 case iaS s x i=>rw[h x (by simp),h i (by simp)]
 case iaA len s x i=>rw[h x (by simp),h i (by simp)]
 case ixS x i=>rw[h x (by simp),h i (by simp)]
 case ixA g s len x i=>rw[h x (by simp),h i (by simp)]
 case nth i x=>rw[h x (by simp)]
 case len x=>rw[h x (by simp)]
 case lenS x=>rw[h x (by simp)]
 case append s b str flat x y=>rw[h x (by simp),h y (by simp)]
 case min x y=>rw[h x (by simp),h y (by simp)]
 case max x y=>rw[h x (by simp),h y (by simp)]
 case slice3 s x lo hi mx=>rw[h x (by simp),h lo (by simp),h hi (by simp),h mx (by simp)]
 case clear s z x=>rw[h x (by simp)]
 case buildDp s n xs=>rw[Zgq h]
 case appDp s b f x y=>rw[h x (by simp),h y (by simp)]
 case asgDp s n x=>rw[h x (by simp)]
 case call f as=>rw[h f (by simp),Zgq (xs:=as) fun y hy=>h y (List.mem_cons_of_mem _ hy)]
section
variable {U:Nat→Prop} {hp hp' : Hp}
structure X9 (U:Nat→Prop) (hp hp' : Hp):Prop where
 same:∀ id,U id→lkp hp id=lkp hp' id
 closed:∀ id o,U id→lkp hp id=some o→∀ i∈Zcq o,U i
def InU (U:Nat→Prop) (x:AV):Prop:=∀ id∈ZI x,U id
theorem Zuk (h:X9 U hp hp') {x:AV} (hx:InU U x) (g:Bool) (s:Nat):JU hp g s x=JU hp' g s x:=by
 cases x<;>simp only[JU]
 case ptr id off=>rw[h.same id (hx id (by simp[ZI,ZJ,Zp]))]
 case prow id sz i off=>rw[h.same id (hx id (by simp[ZI,ZJ,Zp]))]
theorem Zms (h:X9 U hp hp') {x:AV} (hx:InU U x) (sz n:Nat):QW hp sz n x=QW hp' sz n x:=by
 cases x<;>simp only[QW]
 case d x=>cases x<;>rfl
 case own id=>rw[h.same id (hx id (by simp[ZI,ZJ,Zp]))]
 case ownv id off m=>rw[h.same id (hx id (by simp[ZI,ZJ,Zp]))]
theorem ZsU (h:X9 U hp hp') {x:AV} (hx:InU U x) (s:Nat) (lo hi:Option AV):Ux hp s lo hi x=Ux hp' s lo hi x:=by
 cases x<;>simp only[Ux]
 case d x=>cases x<;>rfl
 case own id=>rw[h.same id (hx id (by simp[ZI,ZJ,Zp]))]
 case ownv id off m=>rw[h.same id (hx id (by simp[ZI,ZJ,Zp]))]
theorem Zku (h:X9 U hp hp') {x:AV} (hx:InU U x):Zfv hp x=Zfv hp' x:=by
 cases x<;>simp only[Zfv]
 case d x=>cases x<;>rfl
 case own id=>rw[h.same id (hx id (by simp[ZI,ZJ,Zp]))]
theorem ZsV (h:X9 U hp hp') {x:AV} (hx:InU U x) (s:Nat) (z:D):Zfz hp s z x=Zfz hp' s z x:=by
 cases x<;>simp only[Zfz]
 case ownv id off m=>rw[h.same id (hx id (by simp[ZI,ZJ,Zp]))]
theorem Znl (h:X9 U hp hp') {x:AV} (hx:InU U x) (flat:Bool):Zgz hp flat x=Zgz hp' flat x:=by
 cases x<;>simp only[Zgz]
 case d x=>cases x<;>rfl
 case own id=>rw[h.same id (hx id (by simp[ZI,ZJ,Zp]))]
 case ownv id off m=>rw[h.same id (hx id (by simp[ZI,ZJ,Zp]))]
theorem Zul (h:X9 U hp hp') {x:AV} (hx:InU U x) (sz b base:Nat) (src:List Nat) (ys:List D) (ex:Bool):Ziz hp sz b base src ys ex x=Ziz hp' sz b base src ys ex x:=by
 cases x<;>simp only[Ziz]
 case own id=>rw[h.same id (hx id (by simp[ZI,ZJ,Zp]))]
 case ownv id off m=>rw[h.same id (hx id (by simp[ZI,ZJ,Zp]))]
theorem ZqM (h:X9 U hp hp') {x:AV} (hx:InU U x):Zfh hp x=Zfh hp' x:=by
 cases x<;>simp only[Zfh]
 case own id=>rw[h.same id (hx id (by simp[ZI,ZJ,Zp]))]
theorem ZqN (h:X9 U hp hp') {x:AV} (hx:InU U x) (s b base id n:Nat) (ys:List D):ZdA hp s b base id n ys x=ZdA hp' s b base id n ys x:=by
 cases x<;>simp only[ZdA]
 case own k=>rw[h.same k (hx k (by simp[ZI,ZJ,Zp]))]
theorem Zj5 (h:X9 U hp hp') {x y:AV} (hx:InU U x) (hy:InU U y) (s b:Nat) (str flat:Bool) (base:Nat):Jd hp s b str flat base x y=Jd hp' s b str flat base x y:=by
 unfold Jd
 rw[Znl h hy]
 congr 1
 funext q
 rw[Zul h hx]
theorem Zlg (h:X9 U hp hp') {x:AV} (hx:InU U x):VE hp x=VE hp' x:=by
 cases x<;>simp only[VE]
 case own id=>rw[h.same id (hx id (by simp[ZI,ZJ,Zp]))]
theorem ZsW (h:X9 U hp hp') (ids:List Nat):X9 U (meltIn hp ids) (meltIn hp' ids):=by
 refine⟨fun id hid=>by rw[Zan,Zan,h.same id hid],fun id o hid hl=>?_⟩
 rw[Zan] at hl
 cases hl0:lkp hp id with
 | none=>rw[hl0] at hl;cases hl
 | some o0=>
  rw[hl0] at hl
  simp only[Option.map_some,Option.some.injEq] at hl
  subst hl
  have:=h.closed id o0 hid hl0
  split
  ·cases o0<;>exact this
  ·exact this
theorem ZqO (h:X9 U hp hp') {x y:AV} (hx:InU U x) (hy:InU U y) (s b:Nat) (str flat:Bool) (base:Nat) (ms:List Nat):WN hp s b str flat base x y ms=WN hp' s b str flat base x y ms:=by
 cases ms with
 | nil=>exact Zj5 h hx hy s b str flat base
 | cons i r=>simp only[WN];rw[Zj5 (ZsW h (i :: r)) hx hy]
theorem Zum (h:X9 U hp hp') {x y:AV} (hx:InU U x) (hy:InU U y) (s b:Nat) (str flat:Bool) (base:Nat):ZgB hp s b str flat base y x=ZgB hp' s b str flat base y x:=by
 cases x<;>simp only[ZgB]<;>first | (rw[Zlg h hx,Zlg h hy];exact ZqO h hx hy s b str flat base _) | skip
 rename_i id nm
 rw[Znl h hy,h.same id (hx id (by simp[ZI,ZJ,Zp]))]
theorem Zwf (h:X9 U hp hp') {x y:AV} (hx:InU U x) (hy:InU U y) (s b base:Nat):ZqV hp s b base x y=ZqV hp' s b base x y:=by
 unfold ZqV
 rw[ZqM h hy]
 congr 2
 funext q
 rw[ZqN h hx]
theorem Zun (h:X9 U hp hp') {n:Nat} {x:AV} (hx:∀ id∈Zp x,U id):Zfg hp n x=Zfg hp' n x:=by
 cases x<;>simp only[Zfg]
 case own id=>rw[h.same id (hx id (by simp[Zp]))]
theorem Znm (h:X9 U hp hp') {n:Nat}:∀ {xs:List AV},(∀ id∈xs.flatMap Zp,U id)→ZgA hp n xs=ZgA hp' n xs
 | [],_=>rfl
 | x :: xs,hx=>by
  simp only[ZgA]
  rw[Zun h fun id hid=>hx id (by simp only[List.flatMap_cons,List.mem_append];exact .inl hid),Znm h (xs:=xs) fun id hid=>hx id (by simp only[List.flatMap_cons,List.mem_append];exact .inr hid)]
theorem ZqP (h:X9 U hp hp') {base s n:Nat} {xs:List AV} (hx:∀ x∈xs,InU U x):buildDp hp base s n xs=buildDp hp' base s n xs:=by
 cases xs with
 | nil=>rfl
 | cons x xs=>
  cases xs with
  | cons y ys=>cases x<;>rfl
  | nil=>
   cases x<;>simp only[buildDp]
   rename_i cs
   rw[Znm h (hx (.agg cs) (by simp))]
theorem Znn (h:X9 U hp hp') {x:AV} (hx:∀ id∈Zp x,U id):Zdl hp x=Zdl hp' x:=by
 cases x<;>simp only[Zdl]
 case own id=>rw[h.same id (hx id (by simp[Zp]))]
theorem Zir (h:X9 U hp hp'):∀ {xs:List AV},(∀ id∈xs.flatMap Zp,U id)→Uy hp xs=Uy hp' xs
 | [],_=>rfl
 | x :: xs,hx=>by
  simp only[Uy]
  rw[Znn h fun id hid=>hx id (by simp only[List.flatMap_cons,List.mem_append];exact .inl hid),Zir h (xs:=xs) fun id hid=>hx id (by simp only[List.flatMap_cons,List.mem_append];exact .inr hid)]
theorem ZsX (h:X9 U hp hp') {x:AV} (hx:InU U x) (slc:List (Option Nat)) (s base:Nat) (vs:List AV) (hv:∀ id∈vs.flatMap Zp,U id):ZbI hp slc s base vs x=ZbI hp' slc s base vs x:=by
 cases x<;>simp only[ZbI]
 case ptr id off=>rw[h.same id (hx id (by simp[ZI,ZJ,Zp]))]
 case prow id sz i off=>
  rw[h.same id (hx id (by simp[ZI,ZJ,Zp]))]
  unfold Zd0
  rw[Zir h hv]
theorem Zuo {x:AV} (hx:InU U x):∀ id∈x.cells.flatMap Zp,U id:=by
 intro id hid
 refine hx id ?_
 cases x<;>simp only[AV.cells] at hid<;>first
  | (simp[Zp] at hid;done)
  | (obtain⟨c,hc,hci⟩:=List.mem_flatMap.1 hid;obtain⟨y,_,rfl⟩:=List.mem_map.1 hc;simp[Zp] at hci;done)
  | (simpa [ZI,ZJ,Zp] using hid)
theorem Zwg (h:X9 U hp hp') {x:AV} (hx:InU U x):give hp x=give hp' x:=by
 cases x with
 | agg cs=>simp only[give];rw[Zir h hx]
 | own id=>exact Znn h (x:=.own id) hx
 | _=>rfl
theorem Zj6 (h:X9 U hp hp'):∀ {xs:List AV},(∀ x∈xs,InU U x)→Jb hp xs=Jb hp' xs
 | [],_=>rfl
 | x :: xs,hx=>by
  simp only[Jb]
  rw[Zwg h (hx x (by simp)),Zj6 h (xs:=xs) fun y hy=>hx y (List.mem_cons_of_mem _ hy)]
theorem Zhd (h:X9 U hp hp') {x:AV} (hx:∀ id∈Zp x,U id):ZjY hp x=ZjY hp' x:=by
 cases x<;>simp only[ZjY]
 case own id=>rw[h.same id (hx id (by simp[Zp]))]
 case ownv id off n=>rw[h.same id (hx id (by simp[Zp]))]
theorem ZoO (h:X9 U hp hp'):∀ {xs:List AV},(∀ id∈xs.flatMap Zp,U id)→Q6 (ZjY hp) xs=Q6 (ZjY hp') xs
 | [],_=>rfl
 | x :: xs,hx=>by
  simp only[Q6]
  rw[Zhd h fun id hid=>hx id (by simp only[List.flatMap_cons,List.mem_append];exact .inl hid),ZoO h (xs:=xs) fun id hid=>hx id (by simp only[List.flatMap_cons,List.mem_append];exact .inr hid)]
theorem ZrK (h:X9 U hp hp') {x:AV} (hx:InU U x):toD hp x=toD hp' x:=by
 cases x with
 | agg cs=>simp only[toD];rw[ZoO h hx]
 | own id=>exact Zhd h (x:=.own id) hx
 | ownv id off n=>exact Zhd h (x:=.ownv id off n) hx
 | _=>rfl
theorem Zwh (h:X9 U hp hp') (m:Bool) {x:AV} (hx:InU U x):ZfA hp m x=ZfA hp' m x:=by
 cases x with
 | own id=>
  simp only[ZfA]
  cases m
  ·simp only[Zhk];rw[Zhd h (x:=.own id) hx]
  ·rfl
 | agg cs=>simp only[ZfA];rw[ZrK h hx]
 | ownv id off n=>simp only[ZfA];rw[ZrK h hx]
 | _=>rfl
theorem ZoP (h:X9 U hp hp') (m:Nat→Bool):∀ {xs:List AV} (i:Nat),(∀ x∈xs,InU U x)→args hp m i xs=args hp' m i xs
 | [],i,_=>rfl
 | x :: xs,i,hx=>by
  simp only[args]
  rw[Zwh h (m i) (hx x (by simp)),ZoP h m (xs:=xs) (i+1) fun y hy=>hx y (List.mem_cons_of_mem _ hy)]
theorem ZCI {m:Bool} {x y:AV} (hx:InU U x) (h:ZfA hp m x=some y):InU U y:=by
 unfold ZfA at h
 split at h
 ·cases h;exact hx
 ·cases h;exact hx
 ·cases h;exact hx
 ·cases h;exact hx
 ·cases h;exact hx
 ·rename_i id
  cases m
  ·simp only[Zhk,asD] at h
   obtain⟨d,_,h⟩:=Za h;cases h
   exact fun id hid=>by simp[ZI,ZJ,Zp] at hid
  ·simp only[Zhk] at h;cases h;exact hx
 ·cases m
  ·simp only[ZiB] at h;cases h
   exact fun id hid=>by simp[ZI,ZJ,Zp] at hid
  ·simp only[ZiB] at h;cases h;exact hx
 ·cases h;exact hx
 ·obtain⟨d,_,h⟩:=Za h;cases h
  exact fun id hid=>by simp[ZI,ZJ,Zp] at hid
theorem ZxQ {m:Nat→Bool}:∀ {xs ys:List AV} (i:Nat),(∀ x∈xs,InU U x)→args hp m i xs=some ys→∀ y∈ys,InU U y
 | [],ys,i,_,h=>by simp only[args] at h;cases h;simp
 | x :: xs,ys,i,hx,h=>by
  simp only[args] at h
  obtain⟨y,h1,h⟩:=Za h
  obtain⟨ys',h2,h⟩:=Za h
  cases h
  intro z hz
  rcases List.mem_cons.1 hz with rfl | hz
  ·exact ZCI (hx x (by simp)) h1
  ·exact ZxQ (i+1) (fun y hy=>hx y (by simp[hy])) h2 z hz
theorem Zfb (h:X9 U hp hp'):∀ (n:Nat) (todo acc:List Nat),(∀ i∈todo,U i)→Xd hp n todo acc=Xd hp' n todo acc
 | 0,todo,acc,_=>by simp only[Xd]
 | n+1,[],acc,_=>by simp only[Xd]
 | n+1,id :: todo,acc,ht=>by
  simp only[Xd]
  rw[Zfb h n todo acc fun i hi=>ht i (by simp[hi])]
  rw[← h.same id (ht id (by simp))]
  cases hl:lkp hp id with
  | none=>simp only[ZaY];rw[Zfb h n todo acc fun i hi=>ht i (by simp[hi])]
  | some o=>
   simp only[ZaY]
   rw[Zfb h n (todo++Zcq o) (acc++[id]) fun i hi=>by
    rcases List.mem_append.1 hi with hi | hi
    ·exact ht i (by simp[hi])
    ·exact h.closed id o (ht id (by simp)) hl i hi]
theorem Zlh (h:X9 U hp hp'):∀ (n:Nat) (todo acc:List Nat),(∀ i∈todo,U i)→(∀ i∈acc,U i)→∀ i∈Xd hp n todo acc,U i
 | 0,todo,acc,_,ha=>by simp only[Xd];exact ha
 | n+1,[],acc,_,ha=>by simp only[Xd];exact ha
 | n+1,id :: todo,acc,ht,ha=>by
  simp only[Xd]
  split
  ·exact Zlh h n todo acc (fun i hi=>ht i (by simp[hi])) ha
  ·cases hl:lkp hp id with
   | none=>simp only[ZaY];exact Zlh h n todo acc (fun i hi=>ht i (by simp[hi])) ha
   | some o=>
    simp only[ZaY]
    refine Zlh h n (todo++Zcq o) (acc++[id]) (fun i hi=>?_) fun i hi=>?_
    ·rcases List.mem_append.1 hi with hi | hi
     ·exact ht i (by simp[hi])
     ·exact h.closed id o (ht id (by simp)) hl i hi
    ·rcases List.mem_append.1 hi with hi | hi
     ·exact ha i hi
     ·simp at hi;subst hi;exact ht i (by simp)
theorem ZoQ (h:X9 U hp hp'):∀ {ids:List Nat},(∀ i∈ids,U i)→Zd3 hp ids=Zd3 hp' ids
 | [],_=>rfl
 | i :: ids,hi=>by simp only[Zd3,h.same i (hi i (by simp)),ZoQ h (ids:=ids) fun j hj=>hi j (List.mem_cons_of_mem _ hj)]
theorem ZoR (h:X9 U hp hp') {base:Nat} {ids lent:List Nat} (hi:∀ i∈ids,U i) (hl:∀ i∈lent,U i) (r:AV) (out:List Zo):Za0 hp base ids lent r out=Za0 hp' base ids lent r out:=by
 unfold Za0
 have:(ids.filter fun i=>We (lkp hp i))=ids.filter fun i=>We (lkp hp' i):=List.filter_congr fun i hm=>by rw[h.same i (hi i hm)]
 have h2:∀ {l:List Nat},(∀ i∈l,U i)→(l.any fun i=>ZcN (lkp hp i))=l.any fun i=>ZcN (lkp hp' i):=by
  intro l
  induction l with
  | nil=>intro _;rfl
  | cons i l ih=>intro hl;simp only[List.any_cons];rw[h.same i (hl i (by simp)),ih fun k hk=>hl k (by simp[hk])]
 rw[this,h2 hl]
theorem ZAA (x:AV):∀ i∈Zdk x,i∈Zp x:=by
 intro i hi
 cases x<;>simp only[Zdk,Zp] at hi ⊢ <;> first | exact hi | (simp at hi)
theorem ZyR (x:AV):∀ i∈Zg7 x,i∈ZI x:=by
 intro i hi
 cases x with
 | agg cs=>
  obtain⟨c,hc,hi⟩:=List.mem_flatMap.1 hi
  exact List.mem_flatMap.2 ⟨c,hc,ZAA c i hi⟩
 | own id=>exact hi
 | ownv id a b=>exact hi
 | _=>simp[Zg7,Zdk] at hi
theorem ZrL:∀ {xs ys:List AV},(∀ x∈xs,InU U x)→∀ i∈V1 xs ys,U i
 | [],ys,_,i,hi=>by cases ys<;>simp[V1] at hi
 | x :: xs,[],_,i,hi=>by simp[V1] at hi
 | x :: xs,y :: ys,hx,i,hi=>by
  have ih:=ZrL (ys:=ys) fun z hz=>hx z (List.mem_cons_of_mem _ hz)
  cases y<;>simp only[V1] at hi<;>first | exact ih i hi | skip
  rcases List.mem_append.1 hi with hi | hi
  ·exact hx x (by simp) i (ZyR x i hi)
  ·exact ih i hi
theorem Zj7 (h:X9 U hp hp') (rs:List Nat):∀ {ids:List Nat},(∀ i∈ids,U i)→Zdz hp rs ids=Zdz hp' rs ids
 | [],_=>rfl
 | i :: ids,hi=>by
  have ih:=Zj7 h rs (ids:=ids) fun k hk=>hi k (by simp[hk])
  simp only[Zdz,List.all_cons] at ih ⊢
  rw[ih,h.1 i (hi i (by simp))]
theorem Zup (h:X9 U hp hp') (C:Orc) (m:Nat→Bool) (base f:Nat) {avs:List AV} (hx:∀ x∈avs,InU U x):Zdn C m hp base f avs=Zdn C m hp' base f avs:=by
 unfold Zdn
 rw[← ZoP h m 0 hx]
 cases ha:args hp m 0 avs with
 | none=>rfl
 | some as=>
  simp only[bnd]
  have hin:=ZxQ 0 hx ha
  have ht:∀ i∈as.flatMap ZI,U i:=fun i hi=>by
   obtain⟨y,hy,hi⟩:=List.mem_flatMap.1 hi
   exact hin y hy i hi
  have hf:XO hp=XO hp':=rfl
  rw[hf,← Zfb h (XO hp') (as.flatMap ZI) [] ht]
  have hids:=Zlh h (XO hp') (as.flatMap ZI) [] ht (by simp)
  unfold Zfe
  rw[ZoQ h hids,Zj7 h _ hids]
  congr 1
  congr 1
  funext q
  exact ZoR h hids (ZrL hx) q.1 q.2
theorem clo_in {f:Nat} {caps:List AV} (h:InU U (.clo f caps)):∀ x∈caps,x.atom=true→InU U x:=by
 intro x hx ha id hid
 refine h id (List.mem_flatMap.2 ⟨x,hx,?_⟩)
 cases x<;>first | exact hid | (simp[AV.atom] at ha)
end
end Go.Abs
