/- The abstract semantics: what an operation looks at. Own text. -/
import Derived.Test.YtpobhkoombldlaaGreatAbsSound2
set_option linter.unusedVariables false
set_option linter.unusedSimpArgs false
namespace Go.Abs
open Go
theorem ZhG {sl sl' : Sl}:∀ {xs:List Opd},(∀ x∈xs,evO sl x=evO sl' x)→evL sl xs=evL sl' xs
 | [],_=>rfl
 | x :: xs,h=>by simp only[evL,h x (by simp),ZhG (xs:=xs) fun y hy=>h y (List.mem_cons_of_mem _ hy)]
theorem ZsG {sl sl' : Sl}:∀ {xs:List (Nat×Nat×Opd)},(∀ x∈xs.map (fun q=>q.2.2),evO sl x=evO sl' x)→evP sl xs=evP sl' xs
 | [],_=>rfl
 | (a,b,x) :: xs,h=>by simp only[evP,h x (by simp),ZsG (xs:=xs) fun y hy=>h y (by simp only[List.map_cons,List.mem_cons];exact .inr hy)]
theorem Zkh {sl sl' : Sl} {x:Option Opd} (h:∀ y∈Zmr x,evO sl y=evO sl' y):evM sl x=evM sl' x:=by
 cases x with
 | none=>rfl
 | some y=>simp only[evM,h y (by simp[Zmr])]
theorem XX (C:Orc) (M:Zu) {sl sl' : Sl} (hp:Hp) (base:Nat):∀ {c:COp},(∀ x∈ZP c,evO sl x=evO sl' x)→vop C M sl hp base c=vop C M sl' hp base c:=by
 intro c h
 cases c<;>simp only[ZP] at h<;>simp only[vop]
 case move x=>rw[h x (by simp)]
 case assign s x=>rw[h x (by simp)]
 case pick c a b=>rw[h c (by simp),h a (by simp),h b (by simp)]
 case box x=>rw[h x (by simp)]
 case build zs ps=>rw[ZsG h]
 case buildSl s xs=>rw[ZhG h]
 case load g s a=>rw[h a (by simp)]
 case store slc s a x=>rw[h a (by simp),h x (by simp)]
 case nilCheck x=>rw[h x (by simp)]
 case bin op eq x y=>rw[h x (by simp),h y (by simp)]
 case un op x=>rw[h x (by simp)]
 case eqA neg n x y=>rw[h x (by simp),h y (by simp)]
 case convI k x=>rw[h x (by simp)]
 case convS x=>rw[h x (by simp)]
 case fn f cs=>rw[ZhG h]
 case make s b z l c=>rw[h l (by simp),h c (by simp)]
 case slice s x lo hi=>rw[h x (by simp),Zkh fun y hy=>h y (by simp[hy]),Zkh (x:=hi) fun y hy=>h y (by simp[hy])]
 case sliceS x lo hi=>rw[h x (by simp),Zkh fun y hy=>h y (by simp[hy]),Zkh (x:=hi) fun y hy=>h y (by simp[hy])]
 case slice0 x hi mx=>rw[h x (by simp),h hi (by simp),h mx (by simp)]
 case shift off x=>rw[h x (by simp)]
 case part g s off x=>rw[h x (by simp)]
 case iaS s x i=>rw[h x (by simp),h i (by simp)]
 case iaA len s x i=>rw[h x (by simp),h i (by simp)]
 case ixS x i=>rw[h x (by simp),h i (by simp)]
 case ixA g s len x i=>rw[h x (by simp),h i (by simp)]
 case nth i x=>rw[h x (by simp)]
 case len x=>rw[h x (by simp)]
 case lenS x=>rw[h x (by simp)]
 case append s b str flat x y=>rw[h x (by simp),h y (by simp)]
 case min x y=>rw[h x (by simp),h y (by simp)]
 case max x y=>rw[h x (by simp),h y (by simp)]
 case slice3 s x lo hi mx=>rw[h x (by simp),h lo (by simp),h hi (by simp),h mx (by simp)]
 case clear s z x=>rw[h x (by simp)]
 case buildDp s n xs=>rw[ZhG h]
 case appDp s b f x y=>rw[h x (by simp),h y (by simp)]
 case asgDp s n x=>rw[h x (by simp)]
 case call f as=>rw[h f (by simp),ZhG (xs:=as) fun y hy=>h y (List.mem_cons_of_mem _ hy)]
section
variable {U:Nat→Prop} {hp hp' : Hp}
structure XY (U:Nat→Prop) (hp hp' : Hp):Prop where
 same:∀ id,U id→lkp hp id=lkp hp' id
 closed:∀ id o,U id→lkp hp id=some o→∀ i∈Zew o,U i
def InU (U:Nat→Prop) (x:AV):Prop:=∀ id∈ZH x,U id
theorem Zu9 (h:XY U hp hp') {x:AV} (hx:InU U x) (g:Bool) (s:Nat):Zaf hp g s x=Zaf hp' g s x:=by
 cases x<;>simp only[Zaf]
 case ptr id off=>rw[h.same id (hx id (by simp[ZH,ZI,Zq]))]
 case prow id sz i off=>rw[h.same id (hx id (by simp[ZH,ZI,Zq]))]
theorem Znc (h:XY U hp hp') {x:AV} (hx:InU U x) (sz n:Nat):QP hp sz n x=QP hp' sz n x:=by
 cases x<;>simp only[QP]
 case d x=>cases x<;>rfl
 case own id=>rw[h.same id (hx id (by simp[ZH,ZI,Zq]))]
 case ownv id off m=>rw[h.same id (hx id (by simp[ZH,ZI,Zq]))]
theorem ZtL (h:XY U hp hp') {x:AV} (hx:InU U x) (s:Nat) (lo hi:Option AV):Uz hp s lo hi x=Uz hp' s lo hi x:=by
 cases x<;>simp only[Uz]
 case d x=>cases x<;>rfl
 case own id=>rw[h.same id (hx id (by simp[ZH,ZI,Zq]))]
 case ownv id off m=>rw[h.same id (hx id (by simp[ZH,ZI,Zq]))]
theorem Zlm (h:XY U hp hp') {x:AV} (hx:InU U x):Zhi hp x=Zhi hp' x:=by
 cases x<;>simp only[Zhi]
 case d x=>cases x<;>rfl
 case own id=>rw[h.same id (hx id (by simp[ZH,ZI,Zq]))]
theorem ZtM (h:XY U hp hp') {x:AV} (hx:InU U x) (s:Nat) (z:D):Zhm hp s z x=Zhm hp' s z x:=by
 cases x<;>simp only[Zhm]
 case ownv id off m=>rw[h.same id (hx id (by simp[ZH,ZI,Zq]))]
theorem Zn2 (h:XY U hp hp') {x:AV} (hx:InU U x) (flat:Bool):ZhP hp flat x=ZhP hp' flat x:=by
 cases x<;>simp only[ZhP]
 case d x=>cases x<;>rfl
 case own id=>rw[h.same id (hx id (by simp[ZH,ZI,Zq]))]
 case ownv id off m=>rw[h.same id (hx id (by simp[ZH,ZI,Zq]))]
theorem Zva (h:XY U hp hp') {x:AV} (hx:InU U x) (sz b base:Nat) (src:List Nat) (ys:List D) (ex:Bool):Zjq hp sz b base src ys ex x=Zjq hp' sz b base src ys ex x:=by
 cases x<;>simp only[Zjq]
 case own id=>rw[h.same id (hx id (by simp[ZH,ZI,Zq]))]
 case ownv id off m=>rw[h.same id (hx id (by simp[ZH,ZI,Zq]))]
theorem ZrH (h:XY U hp hp') {x:AV} (hx:InU U x):ZgU hp x=ZgU hp' x:=by
 cases x<;>simp only[ZgU]
 case own id=>rw[h.same id (hx id (by simp[ZH,ZI,Zq]))]
theorem ZrI (h:XY U hp hp') {x:AV} (hx:InU U x) (s b base id n:Nat) (ys:List D):Zfo hp s b base id n ys x=Zfo hp' s b base id n ys x:=by
 cases x<;>simp only[Zfo]
 case own k=>rw[h.same k (hx k (by simp[ZH,ZI,Zq]))]
theorem ZkQ (h:XY U hp hp') {x y:AV} (hx:InU U x) (hy:InU U y) (s b:Nat) (str flat:Bool) (base:Nat):Jx hp s b str flat base x y=Jx hp' s b str flat base x y:=by
 unfold Jx
 rw[Zn2 h hy]
 congr 1
 funext q
 rw[Zva h hx]
theorem Zl5 (h:XY U hp hp') {x:AV} (hx:InU U x):Vs hp x=Vs hp' x:=by
 cases x<;>simp only[Vs]
 case own id=>rw[h.same id (hx id (by simp[ZH,ZI,Zq]))]
theorem ZtN (h:XY U hp hp') (ids:List Nat):XY U (meltIn hp ids) (meltIn hp' ids):=by
 refine⟨fun id hid=>by rw[Zbq,Zbq,h.same id hid],fun id o hid hl=>?_⟩
 rw[Zbq] at hl
 cases hl0:lkp hp id with
 | none=>rw[hl0] at hl;cases hl
 | some o0=>
  rw[hl0] at hl
  simp only[Option.map_some,Option.some.injEq] at hl
  subst hl
  have:=h.closed id o0 hid hl0
  split
  ·cases o0<;>exact this
  ·exact this
theorem ZrJ (h:XY U hp hp') {x y:AV} (hx:InU U x) (hy:InU U y) (s b:Nat) (str flat:Bool) (base:Nat) (ms:List Nat):WV hp s b str flat base x y ms=WV hp' s b str flat base x y ms:=by
 cases ms with
 | nil=>exact ZkQ h hx hy s b str flat base
 | cons i r=>simp only[WV];rw[ZkQ (ZtN h (i :: r)) hx hy]
theorem Zvb (h:XY U hp hp') {x y:AV} (hx:InU U x) (hy:InU U y) (s b:Nat) (str flat:Bool) (base:Nat):ZhR hp s b str flat base y x=ZhR hp' s b str flat base y x:=by
 cases x<;>simp only[ZhR]<;>first | (rw[Zl5 h hx,Zl5 h hy];exact ZrJ h hx hy s b str flat base _) | skip
 rename_i id nm
 rw[Zn2 h hy,h.same id (hx id (by simp[ZH,ZI,Zq]))]
theorem ZwN (h:XY U hp hp') {x y:AV} (hx:InU U x) (hy:InU U y) (s b base:Nat):ZrQ hp s b base x y=ZrQ hp' s b base x y:=by
 unfold ZrQ
 rw[ZrH h hy]
 congr 2
 funext q
 rw[ZrI h hx]
theorem Zvc (h:XY U hp hp') {n:Nat} {x:AV} (hx:∀ id∈Zq x,U id):ZgT hp n x=ZgT hp' n x:=by
 cases x<;>simp only[ZgT]
 case own id=>rw[h.same id (hx id (by simp[Zq]))]
theorem Zn3 (h:XY U hp hp') {n:Nat}:∀ {xs:List AV},(∀ id∈xs.flatMap Zq,U id)→ZhQ hp n xs=ZhQ hp' n xs
 | [],_=>rfl
 | x :: xs,hx=>by
  simp only[ZhQ]
  rw[Zvc h fun id hid=>hx id (by simp only[List.flatMap_cons,List.mem_append];exact .inl hid),Zn3 h (xs:=xs) fun id hid=>hx id (by simp only[List.flatMap_cons,List.mem_append];exact .inr hid)]
theorem ZrK (h:XY U hp hp') {base s n:Nat} {xs:List AV} (hx:∀ x∈xs,InU U x):buildDp hp base s n xs=buildDp hp' base s n xs:=by
 cases xs with
 | nil=>rfl
 | cons x xs=>
  cases xs with
  | cons y ys=>cases x<;>rfl
  | nil=>
   cases x<;>simp only[buildDp]
   rename_i cs
   rw[Zn3 h (hx (.agg cs) (by simp))]
theorem Zn4 (h:XY U hp hp') {x:AV} (hx:∀ id∈Zq x,U id):Zfa hp x=Zfa hp' x:=by
 cases x<;>simp only[Zfa]
 case own id=>rw[h.same id (hx id (by simp[Zq]))]
theorem Zjh (h:XY U hp hp'):∀ {xs:List AV},(∀ id∈xs.flatMap Zq,U id)→UD hp xs=UD hp' xs
 | [],_=>rfl
 | x :: xs,hx=>by
  simp only[UD]
  rw[Zn4 h fun id hid=>hx id (by simp only[List.flatMap_cons,List.mem_append];exact .inl hid),Zjh h (xs:=xs) fun id hid=>hx id (by simp only[List.flatMap_cons,List.mem_append];exact .inr hid)]
theorem ZtO (h:XY U hp hp') {x:AV} (hx:InU U x) (slc:List (Option Nat)) (s base:Nat) (vs:List AV) (hv:∀ id∈vs.flatMap Zq,U id):Zdh hp slc s base vs x=Zdh hp' slc s base vs x:=by
 cases x<;>simp only[Zdh]
 case ptr id off=>rw[h.same id (hx id (by simp[ZH,ZI,Zq]))]
 case prow id sz i off=>
  rw[h.same id (hx id (by simp[ZH,ZI,Zq]))]
  unfold Zge
  rw[Zjh h hv]
theorem Zvd {x:AV} (hx:InU U x):∀ id∈x.cells.flatMap Zq,U id:=by
 intro id hid
 refine hx id ?_
 cases x<;>simp only[AV.cells] at hid<;>first
  | (simp[Zq] at hid;done)
  | (obtain⟨c,hc,hci⟩:=List.mem_flatMap.1 hid;obtain⟨y,_,rfl⟩:=List.mem_map.1 hc;simp[Zq] at hci;done)
  | (simpa [ZH,ZI,Zq] using hid)
theorem ZwO (h:XY U hp hp') {x:AV} (hx:InU U x):give hp x=give hp' x:=by
 cases x with
 | agg cs=>simp only[give];rw[Zjh h hx]
 | own id=>exact Zn4 h (x:=.own id) hx
 | _=>rfl
theorem ZkR (h:XY U hp hp'):∀ {xs:List AV},(∀ x∈xs,InU U x)→Jv hp xs=Jv hp' xs
 | [],_=>rfl
 | x :: xs,hx=>by
  simp only[Jv]
  rw[ZwO h (hx x (by simp)),ZkR h (xs:=xs) fun y hy=>hx y (List.mem_cons_of_mem _ hy)]
theorem Zil (h:XY U hp hp') {x:AV} (hx:∀ id∈Zq x,U id):ZkN hp x=ZkN hp' x:=by
 cases x<;>simp only[ZkN]
 case own id=>rw[h.same id (hx id (by simp[Zq]))]
 case ownv id off n=>rw[h.same id (hx id (by simp[Zq]))]
theorem Zpv (h:XY U hp hp'):∀ {xs:List AV},(∀ id∈xs.flatMap Zq,U id)→QV (ZkN hp) xs=QV (ZkN hp') xs
 | [],_=>rfl
 | x :: xs,hx=>by
  simp only[QV]
  rw[Zil h fun id hid=>hx id (by simp only[List.flatMap_cons,List.mem_append];exact .inl hid),Zpv h (xs:=xs) fun id hid=>hx id (by simp only[List.flatMap_cons,List.mem_append];exact .inr hid)]
theorem ZsH (h:XY U hp hp') {x:AV} (hx:InU U x):toD hp x=toD hp' x:=by
 cases x with
 | agg cs=>simp only[toD];rw[Zpv h hx]
 | own id=>exact Zil h (x:=.own id) hx
 | ownv id off n=>exact Zil h (x:=.ownv id off n) hx
 | _=>rfl
theorem ZwP (h:XY U hp hp') (m:Bool) {x:AV} (hx:InU U x):Zhn hp m x=Zhn hp' m x:=by
 cases x with
 | own id=>
  simp only[Zhn]
  cases m
  ·simp only[Ziq];rw[Zil h (x:=.own id) hx]
  ·rfl
 | agg cs=>simp only[Zhn];rw[ZsH h hx]
 | ownv id off n=>simp only[Zhn];rw[ZsH h hx]
 | _=>rfl
theorem Zpw (h:XY U hp hp') (m:Nat→Bool):∀ {xs:List AV} (i:Nat),(∀ x∈xs,InU U x)→args hp m i xs=args hp' m i xs
 | [],i,_=>rfl
 | x :: xs,i,hx=>by
  simp only[args]
  rw[ZwP h (m i) (hx x (by simp)),Zpw h m (xs:=xs) (i+1) fun y hy=>hx y (List.mem_cons_of_mem _ hy)]
theorem ZBY {m:Bool} {x y:AV} (hx:InU U x) (h:Zhn hp m x=some y):InU U y:=by
 unfold Zhn at h
 split at h
 ·cases h;exact hx
 ·cases h;exact hx
 ·cases h;exact hx
 ·cases h;exact hx
 ·cases h;exact hx
 ·rename_i id
  cases m
  ·simp only[Ziq,asD] at h
   obtain⟨d,_,h⟩:=Za h;cases h
   exact fun id hid=>by simp[ZH,ZI,Zq] at hid
  ·simp only[Ziq] at h;cases h;exact hx
 ·cases m
  ·simp only[Zjs] at h;cases h
   exact fun id hid=>by simp[ZH,ZI,Zq] at hid
  ·simp only[Zjs] at h;cases h;exact hx
 ·cases h;exact hx
 ·obtain⟨d,_,h⟩:=Za h;cases h
  exact fun id hid=>by simp[ZH,ZI,Zq] at hid
theorem Zx7 {m:Nat→Bool}:∀ {xs ys:List AV} (i:Nat),(∀ x∈xs,InU U x)→args hp m i xs=some ys→∀ y∈ys,InU U y
 | [],ys,i,_,h=>by simp only[args] at h;cases h;simp
 | x :: xs,ys,i,hx,h=>by
  simp only[args] at h
  obtain⟨y,h1,h⟩:=Za h
  obtain⟨ys',h2,h⟩:=Za h
  cases h
  intro z hz
  rcases List.mem_cons.1 hz with rfl | hz
  ·exact ZBY (hx x (by simp)) h1
  ·exact Zx7 (i+1) (fun y hy=>hx y (by simp[hy])) h2 z hz
theorem ZgO (h:XY U hp hp'):∀ (n:Nat) (todo acc:List Nat),(∀ i∈todo,U i)→Q0 hp n todo acc=Q0 hp' n todo acc
 | 0,todo,acc,_=>by simp only[Q0]
 | n+1,[],acc,_=>by simp only[Q0]
 | n+1,id :: todo,acc,ht=>by
  simp only[Q0]
  rw[ZgO h n todo acc fun i hi=>ht i (by simp[hi])]
  rw[← h.same id (ht id (by simp))]
  cases hl:lkp hp id with
  | none=>simp only[ZbO];rw[ZgO h n todo acc fun i hi=>ht i (by simp[hi])]
  | some o=>
   simp only[ZbO]
   rw[ZgO h n (todo++Zew o) (acc++[id]) fun i hi=>by
    rcases List.mem_append.1 hi with hi | hi
    ·exact ht i (by simp[hi])
    ·exact h.closed id o (ht id (by simp)) hl i hi]
theorem Zl6 (h:XY U hp hp'):∀ (n:Nat) (todo acc:List Nat),(∀ i∈todo,U i)→(∀ i∈acc,U i)→∀ i∈Q0 hp n todo acc,U i
 | 0,todo,acc,_,ha=>by simp only[Q0];exact ha
 | n+1,[],acc,_,ha=>by simp only[Q0];exact ha
 | n+1,id :: todo,acc,ht,ha=>by
  simp only[Q0]
  split
  ·exact Zl6 h n todo acc (fun i hi=>ht i (by simp[hi])) ha
  ·cases hl:lkp hp id with
   | none=>simp only[ZbO];exact Zl6 h n todo acc (fun i hi=>ht i (by simp[hi])) ha
   | some o=>
    simp only[ZbO]
    refine Zl6 h n (todo++Zew o) (acc++[id]) (fun i hi=>?_) fun i hi=>?_
    ·rcases List.mem_append.1 hi with hi | hi
     ·exact ht i (by simp[hi])
     ·exact h.closed id o (ht id (by simp)) hl i hi
    ·rcases List.mem_append.1 hi with hi | hi
     ·exact ha i hi
     ·simp at hi;subst hi;exact ht i (by simp)
theorem Zpx (h:XY U hp hp'):∀ {ids:List Nat},(∀ i∈ids,U i)→Zgh hp ids=Zgh hp' ids
 | [],_=>rfl
 | i :: ids,hi=>by simp only[Zgh,h.same i (hi i (by simp)),Zpx h (ids:=ids) fun j hj=>hi j (List.mem_cons_of_mem _ hj)]
theorem Zpy (h:XY U hp hp') {base:Nat} {ids lent:List Nat} (hi:∀ i∈ids,U i) (hl:∀ i∈lent,U i) (r:AV) (out:List Zt):ZbQ hp base ids lent r out=ZbQ hp' base ids lent r out:=by
 unfold ZbQ
 have:(ids.filter fun i=>Wg (lkp hp i))=ids.filter fun i=>Wg (lkp hp' i):=List.filter_congr fun i hm=>by rw[h.same i (hi i hm)]
 have h2:∀ {l:List Nat},(∀ i∈l,U i)→(l.any fun i=>ZeU (lkp hp i))=l.any fun i=>ZeU (lkp hp' i):=by
  intro l
  induction l with
  | nil=>intro _;rfl
  | cons i l ih=>intro hl;simp only[List.any_cons];rw[h.same i (hl i (by simp)),ih fun k hk=>hl k (by simp[hk])]
 rw[this,h2 hl]
theorem ZzW (x:AV):∀ i∈Ze9 x,i∈Zq x:=by
 intro i hi
 cases x<;>simp only[Ze9,Zq] at hi ⊢ <;> first | exact hi | (simp at hi)
theorem ZyI (x:AV):∀ i∈Zig x,i∈ZH x:=by
 intro i hi
 cases x with
 | agg cs=>
  obtain⟨c,hc,hi⟩:=List.mem_flatMap.1 hi
  exact List.mem_flatMap.2 ⟨c,hc,ZzW c i hi⟩
 | own id=>exact hi
 | ownv id a b=>exact hi
 | _=>simp[Zig,Ze9] at hi
theorem ZsI:∀ {xs ys:List AV},(∀ x∈xs,InU U x)→∀ i∈V0 xs ys,U i
 | [],ys,_,i,hi=>by cases ys<;>simp[V0] at hi
 | x :: xs,[],_,i,hi=>by simp[V0] at hi
 | x :: xs,y :: ys,hx,i,hi=>by
  have ih:=ZsI (ys:=ys) fun z hz=>hx z (List.mem_cons_of_mem _ hz)
  cases y<;>simp only[V0] at hi<;>first | exact ih i hi | skip
  rcases List.mem_append.1 hi with hi | hi
  ·exact hx x (by simp) i (ZyI x i hi)
  ·exact ih i hi
theorem ZkS (h:XY U hp hp') (rs:List Nat):∀ {ids:List Nat},(∀ i∈ids,U i)→Zfm hp rs ids=Zfm hp' rs ids
 | [],_=>rfl
 | i :: ids,hi=>by
  have ih:=ZkS h rs (ids:=ids) fun k hk=>hi k (by simp[hk])
  simp only[Zfm,List.all_cons] at ih ⊢
  rw[ih,h.1 i (hi i (by simp))]
theorem Zve (h:XY U hp hp') (C:Orc) (m:Nat→Bool) (base f:Nat) {avs:List AV} (hx:∀ x∈avs,InU U x):Zfd C m hp base f avs=Zfd C m hp' base f avs:=by
 unfold Zfd
 rw[← Zpw h m 0 hx]
 cases ha:args hp m 0 avs with
 | none=>rfl
 | some as=>
  simp only[bnd]
  have hin:=Zx7 0 hx ha
  have ht:∀ i∈as.flatMap ZH,U i:=fun i hi=>by
   obtain⟨y,hy,hi⟩:=List.mem_flatMap.1 hi
   exact hin y hy i hi
  have hf:XE hp=XE hp':=rfl
  rw[hf,← ZgO h (XE hp') (as.flatMap ZH) [] ht]
  have hids:=Zl6 h (XE hp') (as.flatMap ZH) [] ht (by simp)
  unfold ZgR
  rw[Zpx h hids,ZkS h _ hids]
  congr 1
  congr 1
  funext q
  exact Zpy h hids (ZsI hx) q.1 q.2
theorem clo_in {f:Nat} {caps:List AV} (h:InU U (.clo f caps)):∀ x∈caps,x.atom=true→InU U x:=by
 intro x hx ha id hid
 refine h id (List.mem_flatMap.2 ⟨x,hx,?_⟩)
 cases x<;>first | exact hid | (simp[AV.atom] at ha)
end
end Go.Abs
