/- The abstract semantics: what an operation looks at. Own text. -/
import Derived.Test.YtemkonmgcoceaaaDoorAbsSound2
set_option linter.unusedVariables false
set_option linter.unusedSimpArgs false
namespace Go.Abs
open Go
theorem JW {sl sl' : Sl}:∀ {xs:List Opd},(∀ x∈xs,evO sl x=evO sl' x)→evL sl xs=evL sl' xs
 | [],_=>rfl
 | x :: xs,h=>by simp only[evL,h x (by simp),JW (xs:=xs) fun y hy=>h y (List.mem_cons_of_mem _ hy)]
theorem Zig {sl sl' : Sl}:∀ {xs:List (Nat×Nat×Opd)},(∀ x∈xs.map (fun q=>q.2.2),evO sl x=evO sl' x)→evP sl xs=evP sl' xs
 | [],_=>rfl
 | (a,b,x) :: xs,h=>by simp only[evP,h x (by simp),Zig (xs:=xs) fun y hy=>h y (by simp only[List.map_cons,List.mem_cons];exact .inr hy)]
theorem ZbP {sl sl' : Sl} {x:Option Opd} (h:∀ y∈Zmt x,evO sl y=evO sl' y):evM sl x=evM sl' x:=by
 cases x with
 | none=>rfl
 | some y=>simp only[evM,h y (by simp[Zmt])]
theorem QM (C:Orc) (M:Zj) {sl sl' : Sl} (hp:Hp) (base:Nat):∀ {c:COp},(∀ x∈ZB c,evO sl x=evO sl' x)→vop C M sl hp base c=vop C M sl' hp base c:=by
 intro c h
 cases c<;>simp only[ZB] at h<;>simp only[vop]
 case move x=>rw[h x (by simp)]
 case assign s x=>rw[h x (by simp)]
 case pick c a b=>rw[h c (by simp),h a (by simp),h b (by simp)]
 case box x=>rw[h x (by simp)]
 case build zs ps=>rw[Zig h]
 case buildSl s xs=>rw[JW h]
 case load g s a=>rw[h a (by simp)]
 case store slc s a x=>rw[h a (by simp),h x (by simp)]
 case nilCheck x=>rw[h x (by simp)]
 case bin op eq x y=>rw[h x (by simp),h y (by simp)]
 case un op x=>rw[h x (by simp)]
 case eqA neg n x y=>rw[h x (by simp),h y (by simp)]
 case convI k x=>rw[h x (by simp)]
 case convS x=>rw[h x (by simp)]
 case fn f cs=>rw[JW h]
 case make s b z l c=>rw[h l (by simp),h c (by simp)]
 case slice s x lo hi=>rw[h x (by simp),ZbP fun y hy=>h y (by simp[hy]),ZbP (x:=hi) fun y hy=>h y (by simp[hy])]
 case sliceS x lo hi=>rw[h x (by simp),ZbP fun y hy=>h y (by simp[hy]),ZbP (x:=hi) fun y hy=>h y (by simp[hy])]
 case slice0 x hi mx=>rw[h x (by simp),h hi (by simp),h mx (by simp)]
 case shift off x=>rw[h x (by simp)]
 case part g s off x=>rw[h x (by simp)]
 case iaS s x i=>rw[h x (by simp),h i (by simp)]
 case iaA len s x i=>rw[h x (by simp),h i (by simp)]
 case ixS x i=>rw[h x (by simp),h i (by simp)]
 case ixA g s len x i=>rw[h x (by simp),h i (by simp)]
 case nth i x=>rw[h x (by simp)]
 case len x=>rw[h x (by simp)]
 case lenS x=>rw[h x (by simp)]
 case append s b str flat x y=>rw[h x (by simp),h y (by simp)]
 case min x y=>rw[h x (by simp),h y (by simp)]
 case max x y=>rw[h x (by simp),h y (by simp)]
 case slice3 s x lo hi mx=>rw[h x (by simp),h lo (by simp),h hi (by simp),h mx (by simp)]
 case clear s z x=>rw[h x (by simp)]
 case buildDp s n xs=>rw[JW h]
 case appDp s b f x y=>rw[h x (by simp),h y (by simp)]
 case asgDp s n x=>rw[h x (by simp)]
 case call f as=>rw[h f (by simp),JW (xs:=as) fun y hy=>h y (List.mem_cons_of_mem _ hy)]
section
variable {U:Nat→Prop} {hp hp' : Hp}
structure QN (U:Nat→Prop) (hp hp' : Hp):Prop where
 same:∀ id,U id→lkp hp id=lkp hp' id
 closed:∀ id o,U id→lkp hp id=some o→∀ i∈WJ o,U i
def InU (U:Nat→Prop) (x:AV):Prop:=∀ id∈Zs x,U id
theorem Zkt (h:QN U hp hp') {x:AV} (hx:InU U x) (g:Bool) (s:Nat):Y9 hp g s x=Y9 hp' g s x:=by
 cases x<;>simp only[Y9]
 case ptr id off=>rw[h.same id (hx id (by simp[Zs,Zu,Zf]))]
 case prow id sz i off=>rw[h.same id (hx id (by simp[Zs,Zu,Zf]))]
theorem Zej (h:QN U hp hp') {x:AV} (hx:InU U x) (sz n:Nat):Qd hp sz n x=Qd hp' sz n x:=by
 cases x<;>simp only[Qd]
 case d x=>cases x<;>rfl
 case own id=>rw[h.same id (hx id (by simp[Zs,Zu,Zf]))]
 case ownv id off m=>rw[h.same id (hx id (by simp[Zs,Zu,Zf]))]
theorem Zjj (h:QN U hp hp') {x:AV} (hx:InU U x) (s:Nat) (lo hi:Option AV):Yn hp s lo hi x=Yn hp' s lo hi x:=by
 cases x<;>simp only[Yn]
 case d x=>cases x<;>rfl
 case own id=>rw[h.same id (hx id (by simp[Zs,Zu,Zf]))]
 case ownv id off m=>rw[h.same id (hx id (by simp[Zs,Zu,Zf]))]
theorem ZcG (h:QN U hp hp') {x:AV} (hx:InU U x):Jr hp x=Jr hp' x:=by
 cases x<;>simp only[Jr]
 case d x=>cases x<;>rfl
 case own id=>rw[h.same id (hx id (by simp[Zs,Zu,Zf]))]
theorem Zjk (h:QN U hp hp') {x:AV} (hx:InU U x) (s:Nat) (z:D):Jw hp s z x=Jw hp' s z x:=by
 cases x<;>simp only[Jw]
 case ownv id off m=>rw[h.same id (hx id (by simp[Zs,Zu,Zf]))]
theorem Ze2 (h:QN U hp hp') {x:AV} (hx:InU U x) (flat:Bool):J6 hp flat x=J6 hp' flat x:=by
 cases x<;>simp only[J6]
 case d x=>cases x<;>rfl
 case own id=>rw[h.same id (hx id (by simp[Zs,Zu,Zf]))]
 case ownv id off m=>rw[h.same id (hx id (by simp[Zs,Zu,Zf]))]
theorem Zku (h:QN U hp hp') {x:AV} (hx:InU U x) (sz b base:Nat) (src:List Nat) (ys:List D) (ex:Bool):Zbt hp sz b base src ys ex x=Zbt hp' sz b base src ys ex x:=by
 cases x<;>simp only[Zbt]
 case own id=>rw[h.same id (hx id (by simp[Zs,Zu,Zf]))]
 case ownv id off m=>rw[h.same id (hx id (by simp[Zs,Zu,Zf]))]
theorem ZhM (h:QN U hp hp') {x:AV} (hx:InU U x):Jg hp x=Jg hp' x:=by
 cases x<;>simp only[Jg]
 case own id=>rw[h.same id (hx id (by simp[Zs,Zu,Zf]))]
theorem ZhN (h:QN U hp hp') {x:AV} (hx:InU U x) (s b base id n:Nat) (ys:List D):Uh hp s b base id n ys x=Uh hp' s b base id n ys x:=by
 cases x<;>simp only[Uh]
 case own k=>rw[h.same k (hx k (by simp[Zs,Zu,Zf]))]
theorem Zcl (h:QN U hp hp') {x y:AV} (hx:InU U x) (hy:InU U y) (s b:Nat) (str flat:Bool) (base:Nat):YU hp s b str flat base x y=YU hp' s b str flat base x y:=by
 unfold YU
 rw[Ze2 h hy]
 congr 1
 funext q
 rw[Zku h hx]
theorem Zds (h:QN U hp hp') {x:AV} (hx:InU U x):Xt hp x=Xt hp' x:=by
 cases x<;>simp only[Xt]
 case own id=>rw[h.same id (hx id (by simp[Zs,Zu,Zf]))]
theorem Zjl (h:QN U hp hp') (ids:List Nat):QN U (meltIn hp ids) (meltIn hp' ids):=by
 refine⟨fun id hid=>by rw[Vm,Vm,h.same id hid],fun id o hid hl=>?_⟩
 rw[Vm] at hl
 cases hl0:lkp hp id with
 | none=>rw[hl0] at hl;cases hl
 | some o0=>
  rw[hl0] at hl
  simp only[Option.map_some,Option.some.injEq] at hl
  subst hl
  have:=h.closed id o0 hid hl0
  split
  ·cases o0<;>exact this
  ·exact this
theorem ZhO (h:QN U hp hp') {x y:AV} (hx:InU U x) (hy:InU U y) (s b:Nat) (str flat:Bool) (base:Nat) (ms:List Nat):Ya hp s b str flat base x y ms=Ya hp' s b str flat base x y ms:=by
 cases ms with
 | nil=>exact Zcl h hx hy s b str flat base
 | cons i r=>simp only[Ya];rw[Zcl (Zjl h (i :: r)) hx hy]
theorem Zkv (h:QN U hp hp') {x y:AV} (hx:InU U x) (hy:InU U y) (s b:Nat) (str flat:Bool) (base:Nat):J8 hp s b str flat base y x=J8 hp' s b str flat base y x:=by
 cases x<;>simp only[J8]<;>first | (rw[Zds h hx,Zds h hy];exact ZhO h hx hy s b str flat base _) | skip
 rename_i id nm
 rw[Ze2 h hy,h.same id (hx id (by simp[Zs,Zu,Zf]))]
theorem ZlV (h:QN U hp hp') {x y:AV} (hx:InU U x) (hy:InU U y) (s b base:Nat):ZhV hp s b base x y=ZhV hp' s b base x y:=by
 unfold ZhV
 rw[ZhM h hy]
 congr 2
 funext q
 rw[ZhN h hx]
theorem Zkw (h:QN U hp hp') {n:Nat} {x:AV} (hx:∀ id∈Zf x,U id):Jf hp n x=Jf hp' n x:=by
 cases x<;>simp only[Jf]
 case own id=>rw[h.same id (hx id (by simp[Zf]))]
theorem Ze3 (h:QN U hp hp') {n:Nat}:∀ {xs:List AV},(∀ id∈xs.flatMap Zf,U id)→J7 hp n xs=J7 hp' n xs
 | [],_=>rfl
 | x :: xs,hx=>by
  simp only[J7]
  rw[Zkw h fun id hid=>hx id (by simp only[List.flatMap_cons,List.mem_append];exact .inl hid),Ze3 h (xs:=xs) fun id hid=>hx id (by simp only[List.flatMap_cons,List.mem_append];exact .inr hid)]
theorem ZhP (h:QN U hp hp') {base s n:Nat} {xs:List AV} (hx:∀ x∈xs,InU U x):buildDp hp base s n xs=buildDp hp' base s n xs:=by
 cases xs with
 | nil=>rfl
 | cons x xs=>
  cases xs with
  | cons y ys=>cases x<;>rfl
  | nil=>
   cases x<;>simp only[buildDp]
   rename_i cs
   rw[Ze3 h (hx (.agg cs) (by simp))]
theorem Ze4 (h:QN U hp hp') {x:AV} (hx:∀ id∈Zf x,U id):W2 hp x=W2 hp' x:=by
 cases x<;>simp only[W2]
 case own id=>rw[h.same id (hx id (by simp[Zf]))]
theorem Zbk (h:QN U hp hp'):∀ {xs:List AV},(∀ id∈xs.flatMap Zf,U id)→Yq hp xs=Yq hp' xs
 | [],_=>rfl
 | x :: xs,hx=>by
  simp only[Yq]
  rw[Ze4 h fun id hid=>hx id (by simp only[List.flatMap_cons,List.mem_append];exact .inl hid),Zbk h (xs:=xs) fun id hid=>hx id (by simp only[List.flatMap_cons,List.mem_append];exact .inr hid)]
theorem Zjm (h:QN U hp hp') {x:AV} (hx:InU U x) (slc:List (Option Nat)) (s base:Nat) (vs:List AV) (hv:∀ id∈vs.flatMap Zf,U id):Wm hp slc s base vs x=Wm hp' slc s base vs x:=by
 cases x<;>simp only[Wm]
 case ptr id off=>rw[h.same id (hx id (by simp[Zs,Zu,Zf]))]
 case prow id sz i off=>
  rw[h.same id (hx id (by simp[Zs,Zu,Zf]))]
  unfold UL
  rw[Zbk h hv]
theorem Zkx {x:AV} (hx:InU U x):∀ id∈x.cells.flatMap Zf,U id:=by
 intro id hid
 refine hx id ?_
 cases x<;>simp only[AV.cells] at hid<;>first
  | (simp[Zf] at hid;done)
  | (obtain⟨c,hc,hci⟩:=List.mem_flatMap.1 hid;obtain⟨y,_,rfl⟩:=List.mem_map.1 hc;simp[Zf] at hci;done)
  | (simpa [Zs,Zu,Zf] using hid)
theorem ZlW (h:QN U hp hp') {x:AV} (hx:InU U x):give hp x=give hp' x:=by
 cases x with
 | agg cs=>simp only[give];rw[Zbk h hx]
 | own id=>exact Ze4 h (x:=.own id) hx
 | _=>rfl
theorem Zcm (h:QN U hp hp'):∀ {xs:List AV},(∀ x∈xs,InU U x)→YS hp xs=YS hp' xs
 | [],_=>rfl
 | x :: xs,hx=>by
  simp only[YS]
  rw[ZlW h (hx x (by simp)),Zcm h (xs:=xs) fun y hy=>hx y (List.mem_cons_of_mem _ hy)]
theorem Zau (h:QN U hp hp') {x:AV} (hx:∀ id∈Zf x,U id):Zb9 hp x=Zb9 hp' x:=by
 cases x<;>simp only[Zb9]
 case own id=>rw[h.same id (hx id (by simp[Zf]))]
 case ownv id off n=>rw[h.same id (hx id (by simp[Zf]))]
theorem Zgn (h:QN U hp hp'):∀ {xs:List AV},(∀ id∈xs.flatMap Zf,U id)→Qh (Zb9 hp) xs=Qh (Zb9 hp') xs
 | [],_=>rfl
 | x :: xs,hx=>by
  simp only[Qh]
  rw[Zau h fun id hid=>hx id (by simp only[List.flatMap_cons,List.mem_append];exact .inl hid),Zgn h (xs:=xs) fun id hid=>hx id (by simp only[List.flatMap_cons,List.mem_append];exact .inr hid)]
theorem Zih (h:QN U hp hp') {x:AV} (hx:InU U x):toD hp x=toD hp' x:=by
 cases x with
 | agg cs=>simp only[toD];rw[Zgn h hx]
 | own id=>exact Zau h (x:=.own id) hx
 | ownv id off n=>exact Zau h (x:=.ownv id off n) hx
 | _=>rfl
theorem ZlX (h:QN U hp hp') (m:Bool) {x:AV} (hx:InU U x):Jx hp m x=Jx hp' m x:=by
 cases x with
 | own id=>
  simp only[Jx]
  cases m
  ·simp only[Zaz];rw[Zau h (x:=.own id) hx]
  ·rfl
 | agg cs=>simp only[Jx];rw[Zih h hx]
 | ownv id off n=>simp only[Jx];rw[Zih h hx]
 | _=>rfl
theorem Zgo (h:QN U hp hp') (m:Nat→Bool):∀ {xs:List AV} (i:Nat),(∀ x∈xs,InU U x)→args hp m i xs=args hp' m i xs
 | [],i,_=>rfl
 | x :: xs,i,hx=>by
  simp only[args]
  rw[ZlX h (m i) (hx x (by simp)),Zgo h m (xs:=xs) (i+1) fun y hy=>hx y (List.mem_cons_of_mem _ hy)]
theorem Zqg {m:Bool} {x y:AV} (hx:InU U x) (h:Jx hp m x=some y):InU U y:=by
 unfold Jx at h
 split at h
 ·cases h;exact hx
 ·cases h;exact hx
 ·cases h;exact hx
 ·cases h;exact hx
 ·cases h;exact hx
 ·rename_i id
  cases m
  ·simp only[Zaz,asD] at h
   obtain⟨d,_,h⟩:=Za h;cases h
   exact fun id hid=>by simp[Zs,Zu,Zf] at hid
  ·simp only[Zaz] at h;cases h;exact hx
 ·cases m
  ·simp only[Zbv] at h;cases h
   exact fun id hid=>by simp[Zs,Zu,Zf] at hid
  ·simp only[Zbv] at h;cases h;exact hx
 ·cases h;exact hx
 ·obtain⟨d,_,h⟩:=Za h;cases h
  exact fun id hid=>by simp[Zs,Zu,Zf] at hid
theorem Zm0 {m:Nat→Bool}:∀ {xs ys:List AV} (i:Nat),(∀ x∈xs,InU U x)→args hp m i xs=some ys→∀ y∈ys,InU U y
 | [],ys,i,_,h=>by simp only[args] at h;cases h;simp
 | x :: xs,ys,i,hx,h=>by
  simp only[args] at h
  obtain⟨y,h1,h⟩:=Za h
  obtain⟨ys',h2,h⟩:=Za h
  cases h
  intro z hz
  rcases List.mem_cons.1 hz with rfl | hz
  ·exact Zqg (hx x (by simp)) h1
  ·exact Zm0 (i+1) (fun y hy=>hx y (by simp[hy])) h2 z hz
theorem Ja (h:QN U hp hp'):∀ (n:Nat) (todo acc:List Nat),(∀ i∈todo,U i)→Qj hp n todo acc=Qj hp' n todo acc
 | 0,todo,acc,_=>by simp only[Qj]
 | n+1,[],acc,_=>by simp only[Qj]
 | n+1,id :: todo,acc,ht=>by
  simp only[Qj]
  rw[Ja h n todo acc fun i hi=>ht i (by simp[hi])]
  rw[← h.same id (ht id (by simp))]
  cases hl:lkp hp id with
  | none=>simp only[VU];rw[Ja h n todo acc fun i hi=>ht i (by simp[hi])]
  | some o=>
   simp only[VU]
   rw[Ja h n (todo++WJ o) (acc++[id]) fun i hi=>by
    rcases List.mem_append.1 hi with hi | hi
    ·exact ht i (by simp[hi])
    ·exact h.closed id o (ht id (by simp)) hl i hi]
theorem Zdt (h:QN U hp hp'):∀ (n:Nat) (todo acc:List Nat),(∀ i∈todo,U i)→(∀ i∈acc,U i)→∀ i∈Qj hp n todo acc,U i
 | 0,todo,acc,_,ha=>by simp only[Qj];exact ha
 | n+1,[],acc,_,ha=>by simp only[Qj];exact ha
 | n+1,id :: todo,acc,ht,ha=>by
  simp only[Qj]
  split
  ·exact Zdt h n todo acc (fun i hi=>ht i (by simp[hi])) ha
  ·cases hl:lkp hp id with
   | none=>simp only[VU];exact Zdt h n todo acc (fun i hi=>ht i (by simp[hi])) ha
   | some o=>
    simp only[VU]
    refine Zdt h n (todo++WJ o) (acc++[id]) (fun i hi=>?_) fun i hi=>?_
    ·rcases List.mem_append.1 hi with hi | hi
     ·exact ht i (by simp[hi])
     ·exact h.closed id o (ht id (by simp)) hl i hi
    ·rcases List.mem_append.1 hi with hi | hi
     ·exact ha i hi
     ·simp at hi;subst hi;exact ht i (by simp)
theorem Zgp (h:QN U hp hp'):∀ {ids:List Nat},(∀ i∈ids,U i)→UO hp ids=UO hp' ids
 | [],_=>rfl
 | i :: ids,hi=>by simp only[UO,h.same i (hi i (by simp)),Zgp h (ids:=ids) fun j hj=>hi j (List.mem_cons_of_mem _ hj)]
theorem Zgq (h:QN U hp hp') {base:Nat} {ids lent:List Nat} (hi:∀ i∈ids,U i) (hl:∀ i∈lent,U i) (r:AV) (out:List Zi):VX hp base ids lent r out=VX hp' base ids lent r out:=by
 unfold VX
 have:(ids.filter fun i=>XL (lkp hp i))=ids.filter fun i=>XL (lkp hp' i):=List.filter_congr fun i hm=>by rw[h.same i (hi i hm)]
 have h2:∀ {l:List Nat},(∀ i∈l,U i)→(l.any fun i=>WR (lkp hp i))=l.any fun i=>WR (lkp hp' i):=by
  intro l
  induction l with
  | nil=>intro _;rfl
  | cons i l ih=>intro hl;simp only[List.any_cons];rw[h.same i (hl i (by simp)),ih fun k hk=>hl k (by simp[hk])]
 rw[this,h2 hl]
theorem Zo6 (x:AV):∀ i∈W1 x,i∈Zf x:=by
 intro i hi
 cases x<;>simp only[W1,Zf] at hi ⊢ <;> first | exact hi | (simp at hi)
theorem ZnN (x:AV):∀ i∈Zap x,i∈Zs x:=by
 intro i hi
 cases x with
 | agg cs=>
  obtain⟨c,hc,hi⟩:=List.mem_flatMap.1 hi
  exact List.mem_flatMap.2 ⟨c,hc,Zo6 c i hi⟩
 | own id=>exact hi
 | ownv id a b=>exact hi
 | _=>simp[Zap,W1] at hi
theorem Zii:∀ {xs ys:List AV},(∀ x∈xs,InU U x)→∀ i∈XJ xs ys,U i
 | [],ys,_,i,hi=>by cases ys<;>simp[XJ] at hi
 | x :: xs,[],_,i,hi=>by simp[XJ] at hi
 | x :: xs,y :: ys,hx,i,hi=>by
  have ih:=Zii (ys:=ys) fun z hz=>hx z (List.mem_cons_of_mem _ hz)
  cases y<;>simp only[XJ] at hi<;>first | exact ih i hi | skip
  rcases List.mem_append.1 hi with hi | hi
  ·exact hx x (by simp) i (ZnN x i hi)
  ·exact ih i hi
theorem Zcn (h:QN U hp hp') (rs:List Nat):∀ {ids:List Nat},(∀ i∈ids,U i)→Ug hp rs ids=Ug hp' rs ids
 | [],_=>rfl
 | i :: ids,hi=>by
  have ih:=Zcn h rs (ids:=ids) fun k hk=>hi k (by simp[hk])
  simp only[Ug,List.all_cons] at ih ⊢
  rw[ih,h.1 i (hi i (by simp))]
theorem Zky (h:QN U hp hp') (C:Orc) (m:Nat→Bool) (base f:Nat) {avs:List AV} (hx:∀ x∈avs,InU U x):W4 C m hp base f avs=W4 C m hp' base f avs:=by
 unfold W4
 rw[← Zgo h m 0 hx]
 cases ha:args hp m 0 avs with
 | none=>rfl
 | some as=>
  simp only[bnd]
  have hin:=Zm0 0 hx ha
  have ht:∀ i∈as.flatMap Zs,U i:=fun i hi=>by
   obtain⟨y,hy,hi⟩:=List.mem_flatMap.1 hi
   exact hin y hy i hi
  have hf:QI hp=QI hp':=rfl
  rw[hf,← Ja h (QI hp') (as.flatMap Zs) [] ht]
  have hids:=Zdt h (QI hp') (as.flatMap Zs) [] ht (by simp)
  unfold Jd
  rw[Zgp h hids,Zcn h _ hids]
  congr 1
  congr 1
  funext q
  exact Zgq h hids (Zii hx) q.1 q.2
theorem clo_in {f:Nat} {caps:List AV} (h:InU U (.clo f caps)):∀ x∈caps,x.atom=true→InU U x:=by
 intro x hx ha id hid
 refine h id (List.mem_flatMap.2 ⟨x,hx,?_⟩)
 cases x<;>first | exact hid | (simp[AV.atom] at ha)
end
end Go.Abs
