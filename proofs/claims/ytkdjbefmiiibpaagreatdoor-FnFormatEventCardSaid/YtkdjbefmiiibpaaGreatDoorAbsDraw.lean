/- The abstract semantics: what an operation looks at. Own text. -/
import Derived.Test.YtkdjbefmiiibpaaGreatDoorAbsSound2
set_option linter.unusedVariables false
set_option linter.unusedSimpArgs false
namespace Go.Abs
open Go
theorem Zdo {sl sl' : Sl}:∀ {xs:List Opd},(∀ x∈xs,evO sl x=evO sl' x)→evL sl xs=evL sl' xs
 | [],_=>rfl
 | x :: xs,h=>by simp only[evL,h x (by simp),Zdo (xs:=xs) fun y hy=>h y (List.mem_cons_of_mem _ hy)]
theorem ZoH {sl sl' : Sl}:∀ {xs:List (Nat×Nat×Opd)},(∀ x∈xs.map (fun q=>q.2.2),evO sl x=evO sl' x)→evP sl xs=evP sl' xs
 | [],_=>rfl
 | (a,b,x) :: xs,h=>by simp only[evP,h x (by simp),ZoH (xs:=xs) fun y hy=>h y (by simp only[List.map_cons,List.mem_cons];exact .inr hy)]
theorem ZfQ {sl sl' : Sl} {x:Option Opd} (h:∀ y∈ZmJ x,evO sl y=evO sl' y):evM sl x=evM sl' x:=by
 cases x with
 | none=>rfl
 | some y=>simp only[evM,h y (by simp[ZmJ])]
theorem XE (C:Orc) (M:Zo) {sl sl' : Sl} (hp:Hp) (base:Nat):∀ {c:COp},(∀ x∈ZN c,evO sl x=evO sl' x)→vop C M sl hp base c=vop C M sl' hp base c:=by
 intro c h
 cases c<;>simp only[ZN] at h<;>simp only[vop]
 case move x=>rw[h x (by simp)]
 case assign s x=>rw[h x (by simp)]
 case pick c a b=>rw[h c (by simp),h a (by simp),h b (by simp)]
 case box x=>rw[h x (by simp)]
 case build zs ps=>rw[ZoH h]
 case buildSl s xs=>rw[Zdo h]
 case load g s a=>rw[h a (by simp)]
 case store slc s a x=>rw[h a (by simp),h x (by simp)]
 case nilCheck x=>rw[h x (by simp)]
 case bin op eq x y=>rw[h x (by simp),h y (by simp)]
 case un op x=>rw[h x (by simp)]
 case eqA neg n x y=>rw[h x (by simp),h y (by simp)]
 case convI k x=>rw[h x (by simp)]
 case convS x=>rw[h x (by simp)]
 case fn f cs=>rw[Zdo h]
 case make s b z l c=>rw[h l (by simp),h c (by simp)]
 case slice s x lo hi=>rw[h x (by simp),ZfQ fun y hy=>h y (by simp[hy]),ZfQ (x:=hi) fun y hy=>h y (by simp[hy])]
 case sliceS x lo hi=>rw[h x (by simp),ZfQ fun y hy=>h y (by simp[hy]),ZfQ (x:=hi) fun y hy=>h y (by simp[hy])]
 case slice0 x hi mx=>rw[h x (by simp),h hi (by simp),h mx (by simp)]
 case shift off x=>rw[h x (by simp)]
 case part g s off x=>rw[h x (by simp)]
 case iaS s x i=>rw[h x (by simp),h i (by simp)]
 case iaA len s x i=>rw[h x (by simp),h i (by simp)]
 case ixS x i=>rw[h x (by simp),h i (by simp)]
 case ixA g s len x i=>rw[h x (by simp),h i (by simp)]
 case nth i x=>rw[h x (by simp)]
 case len x=>rw[h x (by simp)]
 case lenS x=>rw[h x (by simp)]
 case append s b str flat x y=>rw[h x (by simp),h y (by simp)]
 case min x y=>rw[h x (by simp),h y (by simp)]
 case max x y=>rw[h x (by simp),h y (by simp)]
 case slice3 s x lo hi mx=>rw[h x (by simp),h lo (by simp),h hi (by simp),h mx (by simp)]
 case clear s z x=>rw[h x (by simp)]
 case buildDp s n xs=>rw[Zdo h]
 case appDp s b f x y=>rw[h x (by simp),h y (by simp)]
 case asgDp s n x=>rw[h x (by simp)]
 case call f as=>rw[h f (by simp),Zdo (xs:=as) fun y hy=>h y (List.mem_cons_of_mem _ hy)]
section
variable {U:Nat→Prop} {hp hp' : Hp}
structure XF (U:Nat→Prop) (hp hp' : Hp):Prop where
 same:∀ id,U id→lkp hp id=lkp hp' id
 closed:∀ id o,U id→lkp hp id=some o→∀ i∈ZaS o,U i
def InU (U:Nat→Prop) (x:AV):Prop:=∀ id∈ZF x,U id
theorem ZrL (h:XF U hp hp') {x:AV} (hx:InU U x) (g:Bool) (s:Nat):UP hp g s x=UP hp' g s x:=by
 cases x<;>simp only[UP]
 case ptr id off=>rw[h.same id (hx id (by simp[ZF,ZG,Zm]))]
 case prow id sz i off=>rw[h.same id (hx id (by simp[ZF,ZG,Zm]))]
theorem Zi0 (h:XF U hp hp') {x:AV} (hx:InU U x) (sz n:Nat):QO hp sz n x=QO hp' sz n x:=by
 cases x<;>simp only[QO]
 case d x=>cases x<;>rfl
 case own id=>rw[h.same id (hx id (by simp[ZF,ZG,Zm]))]
 case ownv id off m=>rw[h.same id (hx id (by simp[ZF,ZG,Zm]))]
theorem Zqf (h:XF U hp hp') {x:AV} (hx:InU U x) (s:Nat) (lo hi:Option AV):Wp hp s lo hi x=Wp hp' s lo hi x:=by
 cases x<;>simp only[Wp]
 case d x=>cases x<;>rfl
 case own id=>rw[h.same id (hx id (by simp[ZF,ZG,Zm]))]
 case ownv id off m=>rw[h.same id (hx id (by simp[ZF,ZG,Zm]))]
theorem ZgX (h:XF U hp hp') {x:AV} (hx:InU U x):ZcS hp x=ZcS hp' x:=by
 cases x<;>simp only[ZcS]
 case d x=>cases x<;>rfl
 case own id=>rw[h.same id (hx id (by simp[ZF,ZG,Zm]))]
theorem Zqg (h:XF U hp hp') {x:AV} (hx:InU U x) (s:Nat) (z:D):ZcX hp s z x=ZcX hp' s z x:=by
 cases x<;>simp only[ZcX]
 case ownv id off m=>rw[h.same id (hx id (by simp[ZF,ZG,Zm]))]
theorem ZjH (h:XF U hp hp') {x:AV} (hx:InU U x) (flat:Bool):Zdy hp flat x=Zdy hp' flat x:=by
 cases x<;>simp only[Zdy]
 case d x=>cases x<;>rfl
 case own id=>rw[h.same id (hx id (by simp[ZF,ZG,Zm]))]
 case ownv id off m=>rw[h.same id (hx id (by simp[ZF,ZG,Zm]))]
theorem ZrM (h:XF U hp hp') {x:AV} (hx:InU U x) (sz b base:Nat) (src:List Nat) (ys:List D) (ex:Bool):Zfk hp sz b base src ys ex x=Zfk hp' sz b base src ys ex x:=by
 cases x<;>simp only[Zfk]
 case own id=>rw[h.same id (hx id (by simp[ZF,ZG,Zm]))]
 case ownv id off m=>rw[h.same id (hx id (by simp[ZF,ZG,Zm]))]
theorem Zn6 (h:XF U hp hp') {x:AV} (hx:InU U x):ZcD hp x=ZcD hp' x:=by
 cases x<;>simp only[ZcD]
 case own id=>rw[h.same id (hx id (by simp[ZF,ZG,Zm]))]
theorem Zn7 (h:XF U hp hp') {x:AV} (hx:InU U x) (s b base id n:Nat) (ys:List D):ZbA hp s b base id n ys x=ZbA hp' s b base id n ys x:=by
 cases x<;>simp only[ZbA]
 case own k=>rw[h.same k (hx k (by simp[ZF,ZG,Zm]))]
theorem Zgy (h:XF U hp hp') {x y:AV} (hx:InU U x) (hy:InU U y) (s b:Nat) (str flat:Bool) (base:Nat):Un hp s b str flat base x y=Un hp' s b str flat base x y:=by
 unfold Un
 rw[ZjH h hy]
 congr 1
 funext q
 rw[ZrM h hx]
theorem ZhU (h:XF U hp hp') {x:AV} (hx:InU U x):YN hp x=YN hp' x:=by
 cases x<;>simp only[YN]
 case own id=>rw[h.same id (hx id (by simp[ZF,ZG,Zm]))]
theorem Zqh (h:XF U hp hp') (ids:List Nat):XF U (meltIn hp ids) (meltIn hp' ids):=by
 refine⟨fun id hid=>by rw[U8,U8,h.same id hid],fun id o hid hl=>?_⟩
 rw[U8] at hl
 cases hl0:lkp hp id with
 | none=>rw[hl0] at hl;cases hl
 | some o0=>
  rw[hl0] at hl
  simp only[Option.map_some,Option.some.injEq] at hl
  subst hl
  have:=h.closed id o0 hid hl0
  split
  ·cases o0<;>exact this
  ·exact this
theorem Zn8 (h:XF U hp hp') {x y:AV} (hx:InU U x) (hy:InU U y) (s b:Nat) (str flat:Bool) (base:Nat) (ms:List Nat):VT hp s b str flat base x y ms=VT hp' s b str flat base x y ms:=by
 cases ms with
 | nil=>exact Zgy h hx hy s b str flat base
 | cons i r=>simp only[VT];rw[Zgy (Zqh h (i :: r)) hx hy]
theorem ZrN (h:XF U hp hp') {x y:AV} (hx:InU U x) (hy:InU U y) (s b:Nat) (str flat:Bool) (base:Nat):ZdA hp s b str flat base y x=ZdA hp' s b str flat base y x:=by
 cases x<;>simp only[ZdA]<;>first | (rw[ZhU h hx,ZhU h hy];exact Zn8 h hx hy s b str flat base _) | skip
 rename_i id nm
 rw[ZjH h hy,h.same id (hx id (by simp[ZF,ZG,Zm]))]
theorem Zto (h:XF U hp hp') {x y:AV} (hx:InU U x) (hy:InU U y) (s b base:Nat):Zof hp s b base x y=Zof hp' s b base x y:=by
 unfold Zof
 rw[Zn6 h hy]
 congr 2
 funext q
 rw[Zn7 h hx]
theorem ZrO (h:XF U hp hp') {n:Nat} {x:AV} (hx:∀ id∈Zm x,U id):ZcC hp n x=ZcC hp' n x:=by
 cases x<;>simp only[ZcC]
 case own id=>rw[h.same id (hx id (by simp[Zm]))]
theorem ZjI (h:XF U hp hp') {n:Nat}:∀ {xs:List AV},(∀ id∈xs.flatMap Zm,U id)→Zdz hp n xs=Zdz hp' n xs
 | [],_=>rfl
 | x :: xs,hx=>by
  simp only[Zdz]
  rw[ZrO h fun id hid=>hx id (by simp only[List.flatMap_cons,List.mem_append];exact .inl hid),ZjI h (xs:=xs) fun id hid=>hx id (by simp only[List.flatMap_cons,List.mem_append];exact .inr hid)]
theorem Zn9 (h:XF U hp hp') {base s n:Nat} {xs:List AV} (hx:∀ x∈xs,InU U x):buildDp hp base s n xs=buildDp hp' base s n xs:=by
 cases xs with
 | nil=>rfl
 | cons x xs=>
  cases xs with
  | cons y ys=>cases x<;>rfl
  | nil=>
   cases x<;>simp only[buildDp]
   rename_i cs
   rw[ZjI h (hx (.agg cs) (by simp))]
theorem ZjJ (h:XF U hp hp') {x:AV} (hx:∀ id∈Zm x,U id):Zbi hp x=Zbi hp' x:=by
 cases x<;>simp only[Zbi]
 case own id=>rw[h.same id (hx id (by simp[Zm]))]
theorem Zfc (h:XF U hp hp'):∀ {xs:List AV},(∀ id∈xs.flatMap Zm,U id)→Ws hp xs=Ws hp' xs
 | [],_=>rfl
 | x :: xs,hx=>by
  simp only[Ws]
  rw[ZjJ h fun id hid=>hx id (by simp only[List.flatMap_cons,List.mem_append];exact .inl hid),Zfc h (xs:=xs) fun id hid=>hx id (by simp only[List.flatMap_cons,List.mem_append];exact .inr hid)]
theorem Zqi (h:XF U hp hp') {x:AV} (hx:InU U x) (slc:List (Option Nat)) (s base:Nat) (vs:List AV) (hv:∀ id∈vs.flatMap Zm,U id):Zap hp slc s base vs x=Zap hp' slc s base vs x:=by
 cases x<;>simp only[Zap]
 case ptr id off=>rw[h.same id (hx id (by simp[ZF,ZG,Zm]))]
 case prow id sz i off=>
  rw[h.same id (hx id (by simp[ZF,ZG,Zm]))]
  unfold Zb8
  rw[Zfc h hv]
theorem ZrP {x:AV} (hx:InU U x):∀ id∈x.cells.flatMap Zm,U id:=by
 intro id hid
 refine hx id ?_
 cases x<;>simp only[AV.cells] at hid<;>first
  | (simp[Zm] at hid;done)
  | (obtain⟨c,hc,hci⟩:=List.mem_flatMap.1 hid;obtain⟨y,_,rfl⟩:=List.mem_map.1 hc;simp[Zm] at hci;done)
  | (simpa [ZF,ZG,Zm] using hid)
theorem Ztp (h:XF U hp hp') {x:AV} (hx:InU U x):give hp x=give hp' x:=by
 cases x with
 | agg cs=>simp only[give];rw[Zfc h hx]
 | own id=>exact ZjJ h (x:=.own id) hx
 | _=>rfl
theorem Zgz (h:XF U hp hp'):∀ {xs:List AV},(∀ x∈xs,InU U x)→Ul hp xs=Ul hp' xs
 | [],_=>rfl
 | x :: xs,hx=>by
  simp only[Ul]
  rw[Ztp h (hx x (by simp)),Zgz h (xs:=xs) fun y hy=>hx y (List.mem_cons_of_mem _ hy)]
theorem Zd8 (h:XF U hp hp') {x:AV} (hx:∀ id∈Zm x,U id):Zgj hp x=Zgj hp' x:=by
 cases x<;>simp only[Zgj]
 case own id=>rw[h.same id (hx id (by simp[Zm]))]
 case ownv id off n=>rw[h.same id (hx id (by simp[Zm]))]
theorem ZlX (h:XF U hp hp'):∀ {xs:List AV},(∀ id∈xs.flatMap Zm,U id)→QU (Zgj hp) xs=QU (Zgj hp') xs
 | [],_=>rfl
 | x :: xs,hx=>by
  simp only[QU]
  rw[Zd8 h fun id hid=>hx id (by simp only[List.flatMap_cons,List.mem_append];exact .inl hid),ZlX h (xs:=xs) fun id hid=>hx id (by simp only[List.flatMap_cons,List.mem_append];exact .inr hid)]
theorem ZoI (h:XF U hp hp') {x:AV} (hx:InU U x):toD hp x=toD hp' x:=by
 cases x with
 | agg cs=>simp only[toD];rw[ZlX h hx]
 | own id=>exact Zd8 h (x:=.own id) hx
 | ownv id off n=>exact Zd8 h (x:=.ownv id off n) hx
 | _=>rfl
theorem Ztq (h:XF U hp hp') (m:Bool) {x:AV} (hx:InU U x):ZcY hp m x=ZcY hp' m x:=by
 cases x with
 | own id=>
  simp only[ZcY]
  cases m
  ·simp only[Zed];rw[Zd8 h (x:=.own id) hx]
  ·rfl
 | agg cs=>simp only[ZcY];rw[ZoI h hx]
 | ownv id off n=>simp only[ZcY];rw[ZoI h hx]
 | _=>rfl
theorem ZlY (h:XF U hp hp') (m:Nat→Bool):∀ {xs:List AV} (i:Nat),(∀ x∈xs,InU U x)→args hp m i xs=args hp' m i xs
 | [],i,_=>rfl
 | x :: xs,i,hx=>by
  simp only[args]
  rw[Ztq h (m i) (hx x (by simp)),ZlY h m (xs:=xs) (i+1) fun y hy=>hx y (List.mem_cons_of_mem _ hy)]
theorem ZAc {m:Bool} {x y:AV} (hx:InU U x) (h:ZcY hp m x=some y):InU U y:=by
 unfold ZcY at h
 split at h
 ·cases h;exact hx
 ·cases h;exact hx
 ·cases h;exact hx
 ·cases h;exact hx
 ·cases h;exact hx
 ·rename_i id
  cases m
  ·simp only[Zed,asD] at h
   obtain⟨d,_,h⟩:=Za h;cases h
   exact fun id hid=>by simp[ZF,ZG,Zm] at hid
  ·simp only[Zed] at h;cases h;exact hx
 ·cases m
  ·simp only[Zfm] at h;cases h
   exact fun id hid=>by simp[ZF,ZG,Zm] at hid
  ·simp only[Zfm] at h;cases h;exact hx
 ·cases h;exact hx
 ·obtain⟨d,_,h⟩:=Za h;cases h
  exact fun id hid=>by simp[ZF,ZG,Zm] at hid
theorem ZuE {m:Nat→Bool}:∀ {xs ys:List AV} (i:Nat),(∀ x∈xs,InU U x)→args hp m i xs=some ys→∀ y∈ys,InU U y
 | [],ys,i,_,h=>by simp only[args] at h;cases h;simp
 | x :: xs,ys,i,hx,h=>by
  simp only[args] at h
  obtain⟨y,h1,h⟩:=Za h
  obtain⟨ys',h2,h⟩:=Za h
  cases h
  intro z hz
  rcases List.mem_cons.1 hz with rfl | hz
  ·exact ZAc (hx x (by simp)) h1
  ·exact ZuE (i+1) (fun y hy=>hx y (by simp[hy])) h2 z hz
theorem Zcx (h:XF U hp hp'):∀ (n:Nat) (todo acc:List Nat),(∀ i∈todo,U i)→QX hp n todo acc=QX hp' n todo acc
 | 0,todo,acc,_=>by simp only[QX]
 | n+1,[],acc,_=>by simp only[QX]
 | n+1,id :: todo,acc,ht=>by
  simp only[QX]
  rw[Zcx h n todo acc fun i hi=>ht i (by simp[hi])]
  rw[← h.same id (ht id (by simp))]
  cases hl:lkp hp id with
  | none=>simp only[JW];rw[Zcx h n todo acc fun i hi=>ht i (by simp[hi])]
  | some o=>
   simp only[JW]
   rw[Zcx h n (todo++ZaS o) (acc++[id]) fun i hi=>by
    rcases List.mem_append.1 hi with hi | hi
    ·exact ht i (by simp[hi])
    ·exact h.closed id o (ht id (by simp)) hl i hi]
theorem ZhV (h:XF U hp hp'):∀ (n:Nat) (todo acc:List Nat),(∀ i∈todo,U i)→(∀ i∈acc,U i)→∀ i∈QX hp n todo acc,U i
 | 0,todo,acc,_,ha=>by simp only[QX];exact ha
 | n+1,[],acc,_,ha=>by simp only[QX];exact ha
 | n+1,id :: todo,acc,ht,ha=>by
  simp only[QX]
  split
  ·exact ZhV h n todo acc (fun i hi=>ht i (by simp[hi])) ha
  ·cases hl:lkp hp id with
   | none=>simp only[JW];exact ZhV h n todo acc (fun i hi=>ht i (by simp[hi])) ha
   | some o=>
    simp only[JW]
    refine ZhV h n (todo++ZaS o) (acc++[id]) (fun i hi=>?_) fun i hi=>?_
    ·rcases List.mem_append.1 hi with hi | hi
     ·exact ht i (by simp[hi])
     ·exact h.closed id o (ht id (by simp)) hl i hi
    ·rcases List.mem_append.1 hi with hi | hi
     ·exact ha i hi
     ·simp at hi;subst hi;exact ht i (by simp)
theorem ZlZ (h:XF U hp hp'):∀ {ids:List Nat},(∀ i∈ids,U i)→Zcb hp ids=Zcb hp' ids
 | [],_=>rfl
 | i :: ids,hi=>by simp only[Zcb,h.same i (hi i (by simp)),ZlZ h (ids:=ids) fun j hj=>hi j (List.mem_cons_of_mem _ hj)]
theorem Zl0 (h:XF U hp hp') {base:Nat} {ids lent:List Nat} (hi:∀ i∈ids,U i) (hl:∀ i∈lent,U i) (r:AV) (out:List Zl):JY hp base ids lent r out=JY hp' base ids lent r out:=by
 unfold JY
 have:(ids.filter fun i=>Ve (lkp hp i))=ids.filter fun i=>Ve (lkp hp' i):=List.filter_congr fun i hm=>by rw[h.same i (hi i hm)]
 have h2:∀ {l:List Nat},(∀ i∈l,U i)→(l.any fun i=>Za5 (lkp hp i))=l.any fun i=>Za5 (lkp hp' i):=by
  intro l
  induction l with
  | nil=>intro _;rfl
  | cons i l ih=>intro hl;simp only[List.any_cons];rw[h.same i (hl i (by simp)),ih fun k hk=>hl k (by simp[hk])]
 rw[this,h2 hl]
theorem ZxC (x:AV):∀ i∈Zbh x,i∈Zm x:=by
 intro i hi
 cases x<;>simp only[Zbh,Zm] at hi ⊢ <;> first | exact hi | (simp at hi)
theorem ZvF (x:AV):∀ i∈Zd2 x,i∈ZF x:=by
 intro i hi
 cases x with
 | agg cs=>
  obtain⟨c,hc,hi⟩:=List.mem_flatMap.1 hi
  exact List.mem_flatMap.2 ⟨c,hc,ZxC c i hi⟩
 | own id=>exact hi
 | ownv id a b=>exact hi
 | _=>simp[Zd2,Zbh] at hi
theorem ZoJ:∀ {xs ys:List AV},(∀ x∈xs,InU U x)→∀ i∈Vc xs ys,U i
 | [],ys,_,i,hi=>by cases ys<;>simp[Vc] at hi
 | x :: xs,[],_,i,hi=>by simp[Vc] at hi
 | x :: xs,y :: ys,hx,i,hi=>by
  have ih:=ZoJ (ys:=ys) fun z hz=>hx z (List.mem_cons_of_mem _ hz)
  cases y<;>simp only[Vc] at hi<;>first | exact ih i hi | skip
  rcases List.mem_append.1 hi with hi | hi
  ·exact hx x (by simp) i (ZvF x i hi)
  ·exact ih i hi
theorem ZgA (h:XF U hp hp') (rs:List Nat):∀ {ids:List Nat},(∀ i∈ids,U i)→Zbz hp rs ids=Zbz hp' rs ids
 | [],_=>rfl
 | i :: ids,hi=>by
  have ih:=ZgA h rs (ids:=ids) fun k hk=>hi k (by simp[hk])
  simp only[Zbz,List.all_cons] at ih ⊢
  rw[ih,h.1 i (hi i (by simp))]
theorem ZrQ (h:XF U hp hp') (C:Orc) (m:Nat→Bool) (base f:Nat) {avs:List AV} (hx:∀ x∈avs,InU U x):Zbk C m hp base f avs=Zbk C m hp' base f avs:=by
 unfold Zbk
 rw[← ZlY h m 0 hx]
 cases ha:args hp m 0 avs with
 | none=>rfl
 | some as=>
  simp only[bnd]
  have hin:=ZuE 0 hx ha
  have ht:∀ i∈as.flatMap ZF,U i:=fun i hi=>by
   obtain⟨y,hy,hi⟩:=List.mem_flatMap.1 hi
   exact hin y hy i hi
  have hf:Xz hp=Xz hp':=rfl
  rw[hf,← Zcx h (Xz hp') (as.flatMap ZF) [] ht]
  have hids:=ZhV h (Xz hp') (as.flatMap ZF) [] ht (by simp)
  unfold ZcA
  rw[ZlZ h hids,ZgA h _ hids]
  congr 1
  congr 1
  funext q
  exact Zl0 h hids (ZoJ hx) q.1 q.2
theorem clo_in {f:Nat} {caps:List AV} (h:InU U (.clo f caps)):∀ x∈caps,x.atom=true→InU U x:=by
 intro x hx ha id hid
 refine h id (List.mem_flatMap.2 ⟨x,hx,?_⟩)
 cases x<;>first | exact hid | (simp[AV.atom] at ha)
end
end Go.Abs
