/- The abstract semantics: what an operation looks at. Own text. -/
import Derived.Test.YtpobhkoombldlaaGreatAbsSound2
set_option linter.unusedVariables false
set_option linter.unusedSimpArgs false
namespace Go.Abs
open Go
theorem Zfe {sl sl' : Sl}:∀ {xs:List Opd},(∀ x∈xs,evO sl x=evO sl' x)→evL sl xs=evL sl' xs
 | [],_=>rfl
 | x :: xs,h=>by simp only[evL,h x (by simp),Zfe (xs:=xs) fun y hy=>h y (List.mem_cons_of_mem _ hy)]
theorem Zss {sl sl' : Sl}:∀ {xs:List (Nat×Nat×Opd)},(∀ x∈xs.map (fun q=>q.2.2),evO sl x=evO sl' x)→evP sl xs=evP sl' xs
 | [],_=>rfl
 | (a,b,x) :: xs,h=>by simp only[evP,h x (by simp),Zss (xs:=xs) fun y hy=>h y (by simp only[List.map_cons,List.mem_cons];exact .inr hy)]
theorem ZiU {sl sl' : Sl} {x:Option Opd} (h:∀ y∈ZpU x,evO sl y=evO sl' y):evM sl x=evM sl' x:=by
 cases x with
 | none=>rfl
 | some y=>simp only[evM,h y (by simp[ZpU])]
theorem X4 (C:Orc) (M:Zu) {sl sl' : Sl} (hp:Hp) (base:Nat):∀ {c:COp},(∀ x∈ZT c,evO sl x=evO sl' x)→vop C M sl hp base c=vop C M sl' hp base c:=by
 intro c h
 cases c<;>simp only[ZT] at h<;>simp only[vop]
 case move x=>rw[h x (by simp)]
 case assign s x=>rw[h x (by simp)]
 case pick c a b=>rw[h c (by simp),h a (by simp),h b (by simp)]
 case box x=>rw[h x (by simp)]
 case build zs ps=>rw[Zss h]
 case buildSl s xs=>rw[Zfe h]
 case load g s a=>rw[h a (by simp)]
 case store slc s a x=>rw[h a (by simp),h x (by simp)]
 case nilCheck x=>rw[h x (by simp)]
 case bin op eq x y=>rw[h x (by simp),h y (by simp)]
 case un op x=>rw[h x (by simp)]
 case eqA neg n x y=>rw[h x (by simp),h y (by simp)]
 case convI k x=>rw[h x (by simp)]
 case convS x=>rw[h x (by simp)]
 case fn f cs=>rw[Zfe h]
 case make s b z l c=>rw[h l (by simp),h c (by simp)]
 case slice s x lo hi=>rw[h x (by simp),ZiU fun y hy=>h y (by simp[hy]),ZiU (x:=hi) fun y hy=>h y (by simp[hy])]
 case sliceS x lo hi=>rw[h x (by simp),ZiU fun y hy=>h y (by simp[hy]),ZiU (x:=hi) fun y hy=>h y (by simp[hy])]
 case slice0 x hi mx=>rw[h x (by simp),h hi (by simp),h mx (by simp)]
 case shift off x=>rw[h x (by simp)]
 case part g s off x=>rw[h x (by simp)]
 case iaS s x i=>rw[h x (by simp),h i (by simp)]
 case iaA len s x i=>rw[h x (by simp),h i (by simp)]
 case ixS x i=>rw[h x (by simp),h i (by simp)]
 case ixA g s len x i=>rw[h x (by simp),h i (by simp)]
 case nth i x=>rw[h x (by simp)]
 case len x=>rw[h x (by simp)]
 case lenS x=>rw[h x (by simp)]
 case append s b str flat x y=>rw[h x (by simp),h y (by simp)]
 case min x y=>rw[h x (by simp),h y (by simp)]
 case max x y=>rw[h x (by simp),h y (by simp)]
 case slice3 s x lo hi mx=>rw[h x (by simp),h lo (by simp),h hi (by simp),h mx (by simp)]
 case clear s z x=>rw[h x (by simp)]
 case buildDp s n xs=>rw[Zfe h]
 case appDp s b f x y=>rw[h x (by simp),h y (by simp)]
 case asgDp s n x=>rw[h x (by simp)]
 case call f as=>rw[h f (by simp),Zfe (xs:=as) fun y hy=>h y (List.mem_cons_of_mem _ hy)]
section
variable {U:Nat→Prop} {hp hp' : Hp}
structure X5 (U:Nat→Prop) (hp hp' : Hp):Prop where
 same:∀ id,U id→lkp hp id=lkp hp' id
 closed:∀ id o,U id→lkp hp id=some o→∀ i∈Zcv o,U i
def InU (U:Nat→Prop) (x:AV):Prop:=∀ id∈ZJ x,U id
theorem ZuY (h:X5 U hp hp') {x:AV} (hx:InU U x) (g:Bool) (s:Nat):JU hp g s x=JU hp' g s x:=by
 cases x<;>simp only[JU]
 case ptr id off=>rw[h.same id (hx id (by simp[ZJ,ZK,Zq]))]
 case prow id sz i off=>rw[h.same id (hx id (by simp[ZJ,ZK,Zq]))]
theorem ZmE (h:X5 U hp hp') {x:AV} (hx:InU U x) (sz n:Nat):QQ hp sz n x=QQ hp' sz n x:=by
 cases x<;>simp only[QQ]
 case d x=>cases x<;>rfl
 case own id=>rw[h.same id (hx id (by simp[ZJ,ZK,Zq]))]
 case ownv id off m=>rw[h.same id (hx id (by simp[ZJ,ZK,Zq]))]
theorem Ztz (h:X5 U hp hp') {x:AV} (hx:InU U x) (s:Nat) (lo hi:Option AV):Us hp s lo hi x=Us hp' s lo hi x:=by
 cases x<;>simp only[Us]
 case d x=>cases x<;>rfl
 case own id=>rw[h.same id (hx id (by simp[ZJ,ZK,Zq]))]
 case ownv id off m=>rw[h.same id (hx id (by simp[ZJ,ZK,Zq]))]
theorem Zkz (h:X5 U hp hp') {x:AV} (hx:InU U x):ZeR hp x=ZeR hp' x:=by
 cases x<;>simp only[ZeR]
 case d x=>cases x<;>rfl
 case own id=>rw[h.same id (hx id (by simp[ZJ,ZK,Zq]))]
theorem ZtA (h:X5 U hp hp') {x:AV} (hx:InU U x) (s:Nat) (z:D):ZeV hp s z x=ZeV hp' s z x:=by
 cases x<;>simp only[ZeV]
 case ownv id off m=>rw[h.same id (hx id (by simp[ZJ,ZK,Zq]))]
theorem Zny (h:X5 U hp hp') {x:AV} (hx:InU U x) (flat:Bool):Zfn hp flat x=Zfn hp' flat x:=by
 cases x<;>simp only[Zfn]
 case d x=>cases x<;>rfl
 case own id=>rw[h.same id (hx id (by simp[ZJ,ZK,Zq]))]
 case ownv id off m=>rw[h.same id (hx id (by simp[ZJ,ZK,Zq]))]
theorem ZuZ (h:X5 U hp hp') {x:AV} (hx:InU U x) (sz b base:Nat) (src:List Nat) (ys:List D) (ex:Bool):Zhy hp sz b base src ys ex x=Zhy hp' sz b base src ys ex x:=by
 cases x<;>simp only[Zhy]
 case own id=>rw[h.same id (hx id (by simp[ZJ,ZK,Zq]))]
 case ownv id off m=>rw[h.same id (hx id (by simp[ZJ,ZK,Zq]))]
theorem Zrs (h:X5 U hp hp') {x:AV} (hx:InU U x):Zey hp x=Zey hp' x:=by
 cases x<;>simp only[Zey]
 case own id=>rw[h.same id (hx id (by simp[ZJ,ZK,Zq]))]
theorem Zrt (h:X5 U hp hp') {x:AV} (hx:InU U x) (s b base id n:Nat) (ys:List D):Zdn hp s b base id n ys x=Zdn hp' s b base id n ys x:=by
 cases x<;>simp only[Zdn]
 case own k=>rw[h.same k (hx k (by simp[ZJ,ZK,Zq]))]
theorem Zjr (h:X5 U hp hp') {x y:AV} (hx:InU U x) (hy:InU U y) (s b:Nat) (str flat:Bool) (base:Nat):Ji hp s b str flat base x y=Ji hp' s b str flat base x y:=by
 unfold Ji
 rw[Zny h hy]
 congr 1
 funext q
 rw[ZuZ h hx]
theorem Zlh (h:X5 U hp hp') {x:AV} (hx:InU U x):Vp hp x=Vp hp' x:=by
 cases x<;>simp only[Vp]
 case own id=>rw[h.same id (hx id (by simp[ZJ,ZK,Zq]))]
theorem ZtB (h:X5 U hp hp') (ids:List Nat):X5 U (meltIn hp ids) (meltIn hp' ids):=by
 refine⟨fun id hid=>by rw[Zaz,Zaz,h.same id hid],fun id o hid hl=>?_⟩
 rw[Zaz] at hl
 cases hl0:lkp hp id with
 | none=>rw[hl0] at hl;cases hl
 | some o0=>
  rw[hl0] at hl
  simp only[Option.map_some,Option.some.injEq] at hl
  subst hl
  have:=h.closed id o0 hid hl0
  split
  ·cases o0<;>exact this
  ·exact this
theorem Zru (h:X5 U hp hp') {x y:AV} (hx:InU U x) (hy:InU U y) (s b:Nat) (str flat:Bool) (base:Nat) (ms:List Nat):WO hp s b str flat base x y ms=WO hp' s b str flat base x y ms:=by
 cases ms with
 | nil=>exact Zjr h hx hy s b str flat base
 | cons i r=>simp only[WO];rw[Zjr (ZtB h (i :: r)) hx hy]
theorem Zu0 (h:X5 U hp hp') {x y:AV} (hx:InU U x) (hy:InU U y) (s b:Nat) (str flat:Bool) (base:Nat):Zfq hp s b str flat base y x=Zfq hp' s b str flat base y x:=by
 cases x<;>simp only[Zfq]<;>first | (rw[Zlh h hx,Zlh h hy];exact Zru h hx hy s b str flat base _) | skip
 rename_i id nm
 rw[Zny h hy,h.same id (hx id (by simp[ZJ,ZK,Zq]))]
theorem ZwE (h:X5 U hp hp') {x y:AV} (hx:InU U x) (hy:InU U y) (s b base:Nat):ZrB hp s b base x y=ZrB hp' s b base x y:=by
 unfold ZrB
 rw[Zrs h hy]
 congr 2
 funext q
 rw[Zrt h hx]
theorem Zu1 (h:X5 U hp hp') {n:Nat} {x:AV} (hx:∀ id∈Zq x,U id):Zex hp n x=Zex hp' n x:=by
 cases x<;>simp only[Zex]
 case own id=>rw[h.same id (hx id (by simp[Zq]))]
theorem Znz (h:X5 U hp hp') {n:Nat}:∀ {xs:List AV},(∀ id∈xs.flatMap Zq,U id)→Zfo hp n xs=Zfo hp' n xs
 | [],_=>rfl
 | x :: xs,hx=>by
  simp only[Zfo]
  rw[Zu1 h fun id hid=>hx id (by simp only[List.flatMap_cons,List.mem_append];exact .inl hid),Znz h (xs:=xs) fun id hid=>hx id (by simp only[List.flatMap_cons,List.mem_append];exact .inr hid)]
theorem Zrv (h:X5 U hp hp') {base s n:Nat} {xs:List AV} (hx:∀ x∈xs,InU U x):buildDp hp base s n xs=buildDp hp' base s n xs:=by
 cases xs with
 | nil=>rfl
 | cons x xs=>
  cases xs with
  | cons y ys=>cases x<;>rfl
  | nil=>
   cases x<;>simp only[buildDp]
   rename_i cs
   rw[Znz h (hx (.agg cs) (by simp))]
theorem ZnA (h:X5 U hp hp') {x:AV} (hx:∀ id∈Zq x,U id):Zdb hp x=Zdb hp' x:=by
 cases x<;>simp only[Zdb]
 case own id=>rw[h.same id (hx id (by simp[Zq]))]
theorem Zhq (h:X5 U hp hp'):∀ {xs:List AV},(∀ id∈xs.flatMap Zq,U id)→Uw hp xs=Uw hp' xs
 | [],_=>rfl
 | x :: xs,hx=>by
  simp only[Uw]
  rw[ZnA h fun id hid=>hx id (by simp only[List.flatMap_cons,List.mem_append];exact .inl hid),Zhq h (xs:=xs) fun id hid=>hx id (by simp only[List.flatMap_cons,List.mem_append];exact .inr hid)]
theorem ZtC (h:X5 U hp hp') {x:AV} (hx:InU U x) (slc:List (Option Nat)) (s base:Nat) (vs:List AV) (hv:∀ id∈vs.flatMap Zq,U id):ZbR hp slc s base vs x=ZbR hp' slc s base vs x:=by
 cases x<;>simp only[ZbR]
 case ptr id off=>rw[h.same id (hx id (by simp[ZJ,ZK,Zq]))]
 case prow id sz i off=>
  rw[h.same id (hx id (by simp[ZJ,ZK,Zq]))]
  unfold ZdS
  rw[Zhq h hv]
theorem Zu2 {x:AV} (hx:InU U x):∀ id∈x.cells.flatMap Zq,U id:=by
 intro id hid
 refine hx id ?_
 cases x<;>simp only[AV.cells] at hid<;>first
  | (simp[Zq] at hid;done)
  | (obtain⟨c,hc,hci⟩:=List.mem_flatMap.1 hid;obtain⟨y,_,rfl⟩:=List.mem_map.1 hc;simp[Zq] at hci;done)
  | (simpa [ZJ,ZK,Zq] using hid)
theorem ZwF (h:X5 U hp hp') {x:AV} (hx:InU U x):give hp x=give hp' x:=by
 cases x with
 | agg cs=>simp only[give];rw[Zhq h hx]
 | own id=>exact ZnA h (x:=.own id) hx
 | _=>rfl
theorem Zjs (h:X5 U hp hp'):∀ {xs:List AV},(∀ x∈xs,InU U x)→Jg hp xs=Jg hp' xs
 | [],_=>rfl
 | x :: xs,hx=>by
  simp only[Jg]
  rw[ZwF h (hx x (by simp)),Zjs h (xs:=xs) fun y hy=>hx y (List.mem_cons_of_mem _ hy)]
theorem Zf6 (h:X5 U hp hp') {x:AV} (hx:∀ id∈Zq x,U id):Zjm hp x=Zjm hp' x:=by
 cases x<;>simp only[Zjm]
 case own id=>rw[h.same id (hx id (by simp[Zq]))]
 case ownv id off n=>rw[h.same id (hx id (by simp[Zq]))]
theorem Zpa (h:X5 U hp hp'):∀ {xs:List AV},(∀ id∈xs.flatMap Zq,U id)→QV (Zjm hp) xs=QV (Zjm hp') xs
 | [],_=>rfl
 | x :: xs,hx=>by
  simp only[QV]
  rw[Zf6 h fun id hid=>hx id (by simp only[List.flatMap_cons,List.mem_append];exact .inl hid),Zpa h (xs:=xs) fun id hid=>hx id (by simp only[List.flatMap_cons,List.mem_append];exact .inr hid)]
theorem Zst (h:X5 U hp hp') {x:AV} (hx:InU U x):toD hp x=toD hp' x:=by
 cases x with
 | agg cs=>simp only[toD];rw[Zpa h hx]
 | own id=>exact Zf6 h (x:=.own id) hx
 | ownv id off n=>exact Zf6 h (x:=.ownv id off n) hx
 | _=>rfl
theorem ZwG (h:X5 U hp hp') (m:Bool) {x:AV} (hx:InU U x):ZeW hp m x=ZeW hp' m x:=by
 cases x with
 | own id=>
  simp only[ZeW]
  cases m
  ·simp only[Zgc];rw[Zf6 h (x:=.own id) hx]
  ·rfl
 | agg cs=>simp only[ZeW];rw[Zst h hx]
 | ownv id off n=>simp only[ZeW];rw[Zst h hx]
 | _=>rfl
theorem Zpb (h:X5 U hp hp') (m:Nat→Bool):∀ {xs:List AV} (i:Nat),(∀ x∈xs,InU U x)→args hp m i xs=args hp' m i xs
 | [],i,_=>rfl
 | x :: xs,i,hx=>by
  simp only[args]
  rw[ZwG h (m i) (hx x (by simp)),Zpb h m (xs:=xs) (i+1) fun y hy=>hx y (List.mem_cons_of_mem _ hy)]
theorem ZBW {m:Bool} {x y:AV} (hx:InU U x) (h:ZeW hp m x=some y):InU U y:=by
 unfold ZeW at h
 split at h
 ·cases h;exact hx
 ·cases h;exact hx
 ·cases h;exact hx
 ·cases h;exact hx
 ·cases h;exact hx
 ·rename_i id
  cases m
  ·simp only[Zgc,asD] at h
   obtain⟨d,_,h⟩:=Za h;cases h
   exact fun id hid=>by simp[ZJ,ZK,Zq] at hid
  ·simp only[Zgc] at h;cases h;exact hx
 ·cases m
  ·simp only[ZhA] at h;cases h
   exact fun id hid=>by simp[ZJ,ZK,Zq] at hid
  ·simp only[ZhA] at h;cases h;exact hx
 ·cases h;exact hx
 ·obtain⟨d,_,h⟩:=Za h;cases h
  exact fun id hid=>by simp[ZJ,ZK,Zq] at hid
theorem ZxY {m:Nat→Bool}:∀ {xs ys:List AV} (i:Nat),(∀ x∈xs,InU U x)→args hp m i xs=some ys→∀ y∈ys,InU U y
 | [],ys,i,_,h=>by simp only[args] at h;cases h;simp
 | x :: xs,ys,i,hx,h=>by
  simp only[args] at h
  obtain⟨y,h1,h⟩:=Za h
  obtain⟨ys',h2,h⟩:=Za h
  cases h
  intro z hz
  rcases List.mem_cons.1 hz with rfl | hz
  ·exact ZBW (hx x (by simp)) h1
  ·exact ZxY (i+1) (fun y hy=>hx y (by simp[hy])) h2 z hz
theorem Zes (h:X5 U hp hp'):∀ (n:Nat) (todo acc:List Nat),(∀ i∈todo,U i)→Q0 hp n todo acc=Q0 hp' n todo acc
 | 0,todo,acc,_=>by simp only[Q0]
 | n+1,[],acc,_=>by simp only[Q0]
 | n+1,id :: todo,acc,ht=>by
  simp only[Q0]
  rw[Zes h n todo acc fun i hi=>ht i (by simp[hi])]
  rw[← h.same id (ht id (by simp))]
  cases hl:lkp hp id with
  | none=>simp only[ZaU];rw[Zes h n todo acc fun i hi=>ht i (by simp[hi])]
  | some o=>
   simp only[ZaU]
   rw[Zes h n (todo++Zcv o) (acc++[id]) fun i hi=>by
    rcases List.mem_append.1 hi with hi | hi
    ·exact ht i (by simp[hi])
    ·exact h.closed id o (ht id (by simp)) hl i hi]
theorem Zli (h:X5 U hp hp'):∀ (n:Nat) (todo acc:List Nat),(∀ i∈todo,U i)→(∀ i∈acc,U i)→∀ i∈Q0 hp n todo acc,U i
 | 0,todo,acc,_,ha=>by simp only[Q0];exact ha
 | n+1,[],acc,_,ha=>by simp only[Q0];exact ha
 | n+1,id :: todo,acc,ht,ha=>by
  simp only[Q0]
  split
  ·exact Zli h n todo acc (fun i hi=>ht i (by simp[hi])) ha
  ·cases hl:lkp hp id with
   | none=>simp only[ZaU];exact Zli h n todo acc (fun i hi=>ht i (by simp[hi])) ha
   | some o=>
    simp only[ZaU]
    refine Zli h n (todo++Zcv o) (acc++[id]) (fun i hi=>?_) fun i hi=>?_
    ·rcases List.mem_append.1 hi with hi | hi
     ·exact ht i (by simp[hi])
     ·exact h.closed id o (ht id (by simp)) hl i hi
    ·rcases List.mem_append.1 hi with hi | hi
     ·exact ha i hi
     ·simp at hi;subst hi;exact ht i (by simp)
theorem Zpc (h:X5 U hp hp'):∀ {ids:List Nat},(∀ i∈ids,U i)→ZdV hp ids=ZdV hp' ids
 | [],_=>rfl
 | i :: ids,hi=>by simp only[ZdV,h.same i (hi i (by simp)),Zpc h (ids:=ids) fun j hj=>hi j (List.mem_cons_of_mem _ hj)]
theorem Zpd (h:X5 U hp hp') {base:Nat} {ids lent:List Nat} (hi:∀ i∈ids,U i) (hl:∀ i∈lent,U i) (r:AV) (out:List Zt):ZaW hp base ids lent r out=ZaW hp' base ids lent r out:=by
 unfold ZaW
 have:(ids.filter fun i=>We (lkp hp i))=ids.filter fun i=>We (lkp hp' i):=List.filter_congr fun i hm=>by rw[h.same i (hi i hm)]
 have h2:∀ {l:List Nat},(∀ i∈l,U i)→(l.any fun i=>ZcX (lkp hp i))=l.any fun i=>ZcX (lkp hp' i):=by
  intro l
  induction l with
  | nil=>intro _;rfl
  | cons i l ih=>intro hl;simp only[List.any_cons];rw[h.same i (hl i (by simp)),ih fun k hk=>hl k (by simp[hk])]
 rw[this,h2 hl]
theorem ZzS (x:AV):∀ i∈Zda x,i∈Zq x:=by
 intro i hi
 cases x<;>simp only[Zda,Zq] at hi ⊢ <;> first | exact hi | (simp at hi)
theorem Zyz (x:AV):∀ i∈Zf1 x,i∈ZJ x:=by
 intro i hi
 cases x with
 | agg cs=>
  obtain⟨c,hc,hi⟩:=List.mem_flatMap.1 hi
  exact List.mem_flatMap.2 ⟨c,hc,ZzS c i hi⟩
 | own id=>exact hi
 | ownv id a b=>exact hi
 | _=>simp[Zf1,Zda] at hi
theorem Zsu:∀ {xs ys:List AV},(∀ x∈xs,InU U x)→∀ i∈VX xs ys,U i
 | [],ys,_,i,hi=>by cases ys<;>simp[VX] at hi
 | x :: xs,[],_,i,hi=>by simp[VX] at hi
 | x :: xs,y :: ys,hx,i,hi=>by
  have ih:=Zsu (ys:=ys) fun z hz=>hx z (List.mem_cons_of_mem _ hz)
  cases y<;>simp only[VX] at hi<;>first | exact ih i hi | skip
  rcases List.mem_append.1 hi with hi | hi
  ·exact hx x (by simp) i (Zyz x i hi)
  ·exact ih i hi
theorem Zjt (h:X5 U hp hp') (rs:List Nat):∀ {ids:List Nat},(∀ i∈ids,U i)→Zdm hp rs ids=Zdm hp' rs ids
 | [],_=>rfl
 | i :: ids,hi=>by
  have ih:=Zjt h rs (ids:=ids) fun k hk=>hi k (by simp[hk])
  simp only[Zdm,List.all_cons] at ih ⊢
  rw[ih,h.1 i (hi i (by simp))]
theorem Zu3 (h:X5 U hp hp') (C:Orc) (m:Nat→Bool) (base f:Nat) {avs:List AV} (hx:∀ x∈avs,InU U x):Zde C m hp base f avs=Zde C m hp' base f avs:=by
 unfold Zde
 rw[← Zpb h m 0 hx]
 cases ha:args hp m 0 avs with
 | none=>rfl
 | some as=>
  simp only[bnd]
  have hin:=ZxY 0 hx ha
  have ht:∀ i∈as.flatMap ZJ,U i:=fun i hi=>by
   obtain⟨y,hy,hi⟩:=List.mem_flatMap.1 hi
   exact hin y hy i hi
  have hf:XL hp=XL hp':=rfl
  rw[hf,← Zes h (XL hp') (as.flatMap ZJ) [] ht]
  have hids:=Zli h (XL hp') (as.flatMap ZJ) [] ht (by simp)
  unfold Zev
  rw[Zpc h hids,Zjt h _ hids]
  congr 1
  congr 1
  funext q
  exact Zpd h hids (Zsu hx) q.1 q.2
theorem clo_in {f:Nat} {caps:List AV} (h:InU U (.clo f caps)):∀ x∈caps,x.atom=true→InU U x:=by
 intro x hx ha id hid
 refine h id (List.mem_flatMap.2 ⟨x,hx,?_⟩)
 cases x<;>first | exact hid | (simp[AV.atom] at ha)
end
end Go.Abs
