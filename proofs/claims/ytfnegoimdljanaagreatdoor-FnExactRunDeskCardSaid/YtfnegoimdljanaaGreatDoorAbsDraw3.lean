/- Own text. -/
import Derived.Test.YtfnegoimdljanaaGreatDoorAbsSound3
set_option linter.unusedVariables false
set_option linter.unusedSimpArgs false
namespace Go.Abs
open Go
theorem Zgx {sl sl' : Sl}:∀ {xs:List Opd},(∀ x∈xs,evO sl x=evO sl' x)→evL sl xs=evL sl' xs
 | [],_=>rfl
 | x :: xs,h=>by simp only[evL,h x (by simp),Zgx (xs:=xs) fun y hy=>h y (Kz _ hy)]
theorem Zwj {sl sl' : Sl}:∀ {xs:List (Nat×Nat×Opd)},(∀ x∈xs.map (fun q=>q.2.2),evO sl x=evO sl' x)→evP sl xs=evP sl' xs
 | [],_=>rfl
 | (a,b,x) :: xs,h=>by simp only[evP,h x (by simp),Zwj (xs:=xs) fun y hy=>h y (by simp only[Kk,Ke];exact .inr hy)]
theorem Zj2 {sl sl' : Sl} {x:Option Opd} (h:∀ y∈ZtE x,evO sl y=evO sl' y):evM sl x=evM sl' x:=by
 cases x with
 | none=>rfl
 | some y=>simp only[evM,h y (by simp[ZtE])]
theorem XB (C:Orc) (M:Zs) {sl sl' : Sl} (hp:Hp) (base:Nat):∀ {c:COp},(∀ x∈ZF c,evO sl x=evO sl' x)→vop C M sl hp base c=vop C M sl' hp base c:=by
 intro c h;cases c<;>simp only[ZF] at h<;>simp only[vop]
 case move x=>rw[h x (by simp)]
 case assign s x=>rw[h x (by simp)]
 case pick c a b=>rw[h c (by simp),h a (by simp),h b (by simp)]
 case box x=>rw[h x (by simp)]
 case build zs ps=>rw[Zwj h]
 case buildSl s xs=>rw[Zgx h]
 case load g s a=>rw[h a (by simp)]
 case store slc s a x=>rw[h a (by simp),h x (by simp)]
 case nilCheck x=>rw[h x (by simp)]
 case bin op eq x y=>rw[h x (by simp),h y (by simp)]
 case un op x=>rw[h x (by simp)]
 case eqA neg n x y=>rw[h x (by simp),h y (by simp)]
 case convI k x=>rw[h x (by simp)]
 case convS x=>rw[h x (by simp)]
 case fn f cs=>rw[Zgx h]
 case make s b z l c=>rw[h l (by simp),h c (by simp)]
 case slice s x lo hi=>rw[h x (by simp),Zj2 fun y hy=>h y (by simp[hy]),Zj2 (x:=hi) fun y hy=>h y (by simp[hy])]
 case sliceS x lo hi=>rw[h x (by simp),Zj2 fun y hy=>h y (by simp[hy]),Zj2 (x:=hi) fun y hy=>h y (by simp[hy])]
 case slice0 x hi mx=>rw[h x (by simp),h hi (by simp),h mx (by simp)]
 case shift off x=>rw[h x (by simp)]
 case part g s off x=>rw[h x (by simp)]
 case iaS s x i=>rw[h x (by simp),h i (by simp)]
 case iaA len s x i=>rw[h x (by simp),h i (by simp)]
 case ixS x i=>rw[h x (by simp),h i (by simp)]
 case ixA g s len x i=>rw[h x (by simp),h i (by simp)]
 case nth i x=>rw[h x (by simp)]
 case len x=>rw[h x (by simp)]
 case lenS x=>rw[h x (by simp)]
 case append s b str flat x y=>rw[h x (by simp),h y (by simp)]
 case min x y=>rw[h x (by simp),h y (by simp)]
 case max x y=>rw[h x (by simp),h y (by simp)]
 case slice3 s x lo hi mx=>rw[h x (by simp),h lo (by simp),h hi (by simp),h mx (by simp)]
 case clear s z x=>rw[h x (by simp)]
 case buildT s n xs=>rw[Zgx h]
 case appT s b f x y=>rw[h x (by simp),h y (by simp)]
 case asgT s n x=>rw[h x (by simp)]
 case makeT s b n z l c=>rw[h l (by simp),h c (by simp)]
 case call f as1=>rw[h f (by simp),Zgx (xs:=as1) fun y hy=>h y (Kz _ hy)]
section
variable {U:Nat→Prop} {hp hp' : Hp}
structure XD (U:Nat→Prop) (hp hp' : Hp):Prop where
 same:∀ id,U id→lkp hp id=lkp hp' id
 closed:∀ id o,U id→lkp hp id=some o→∀ i∈Zal o,U i
def InU (U:Nat→Prop) (x:AV):Prop:=∀ id∈Zz x,U id
theorem ZzZ (h:XD U hp hp') {x:AV} (hx:InU U x) (g:Bool) (s:Nat):UO hp g s x=UO hp' g s x:=by
 cases x<;>simp only[UO]
 case ptr id off=>rw[h.same id (hx id (by simp[Zz,ZC,Zo]))]
 case prow id sz i off=>rw[h.same id (hx id (by simp[Zz,ZC,Zo]))]
theorem Zoj (h:XD U hp hp') {x:AV} (hx:InU U x) (sz n:Nat):QK hp sz n x=QK hp' sz n x:=by
 cases x<;>simp only[QK]
 case d x=>cases x<;>rfl
 case own id=>rw[h.same id (hx id (by simp[Zz,ZC,Zo]))]
 case ownv id off m=>rw[h.same id (hx id (by simp[Zz,ZC,Zo]))]
theorem Zx6 (h:XD U hp hp') {x:AV} (hx:InU U x) (s:Nat) (lo hi:Option AV):Wj hp s lo hi x=Wj hp' s lo hi x:=by
 cases x<;>simp only[Wj]
 case d x=>cases x<;>rfl
 case own id=>rw[h.same id (hx id (by simp[Zz,ZC,Zo]))]
 case ownv id off m=>rw[h.same id (hx id (by simp[Zz,ZC,Zo]))]
theorem ZlB (h:XD U hp hp') {x:AV} (hx:InU U x):Zf0 hp x=Zf0 hp' x:=by
 cases x<;>simp only[Zf0]
 case d x=>cases x<;>rfl
 case own id=>rw[h.same id (hx id (by simp[Zz,ZC,Zo]))]
theorem Zx7 (h:XD U hp hp') {x:AV} (hx:InU U x) (s:Nat) (z:D):ZhK hp s z x=ZhK hp' s z x:=by
 cases x<;>simp only[ZhK]
 case ownv id off m=>rw[h.same id (hx id (by simp[Zz,ZC,Zo]))]
theorem Zz0 (h:XD U hp hp') {x:AV} (hx:InU U x) (flat:Bool):Zjj hp flat x=Zjj hp' flat x:=by
 cases x<;>simp only[Zjj]
 case d x=>cases x<;>rfl
 case own id=>rw[h.same id (hx id (by simp[Zz,ZC,Zo]))]
 case ownv id off m=>rw[h.same id (hx id (by simp[Zz,ZC,Zo]))]
theorem Zz1 (h:XD U hp hp') {x:AV} (hx:InU U x) (sz b base:Nat) (aa:List Nat) (ys:List D) (ex:Bool):Zk0 hp sz b base aa ys ex x=Zk0 hp' sz b base aa ys ex x:=by
 cases x<;>simp only[Zk0]
 case own id=>rw[h.same id (hx id (by simp[Zz,ZC,Zo]))]
 case ownv id off m=>rw[h.same id (hx id (by simp[Zz,ZC,Zo]))]
theorem Zvq (h:XD U hp hp') {x:AV} (hx:InU U x):Zfm hp x=Zfm hp' x:=by
 cases x<;>simp only[Zfm]
 case own id=>rw[h.same id (hx id (by simp[Zz,ZC,Zo]))]
theorem Zvr (h:XD U hp hp') {x:AV} (hx:InU U x) (s b base id n:Nat) (ys:List D):Zdt hp s b base id n ys x=Zdt hp' s b base id n ys x:=by
 cases x<;>simp only[Zdt]
 case own k=>rw[h.same k (hx k (by simp[Zz,ZC,Zo]))]
theorem ZkP (h:XD U hp hp') {x y:AV} (hx:InU U x) (hy:InU U y) (s b:Nat) (str flat:Bool) (base:Nat):Zap hp s b str flat base x y=Zap hp' s b str flat base x y:=by
 unfold Zap;rw[Zz0 h hy];congr 1
 funext q
 rw[Zz1 h hx]
theorem ZmF (h:XD U hp hp') {x:AV} (hx:InU U x):Ye hp x=Ye hp' x:=by
 cases x<;>simp only[Ye]
 case own id=>rw[h.same id (hx id (by simp[Zz,ZC,Zo]))]
theorem Zx8 (h:XD U hp hp') (ids:List Nat):XD U (meltIn hp ids) (meltIn hp' ids):=by
 refine⟨fun id aa=>by rw[Jj,Jj,h.same id aa],fun id o aa hl=>?_⟩;rw[Jj] at hl;cases hl0:lkp hp id with
 | none=>rw[hl0] at hl;cases hl
 | some o0=>
  rw[hl0] at hl;simp only[Lc,Option.some.injEq] at hl;subst hl;have:=h.closed id o0 aa hl0;split
  ·cases o0 with
   | tree s n xs l=>cases l<;>exact this
   | _=>exact this
  ·exact this
theorem ZkQ (h:XD U hp hp') {x y:AV} (hx:InU U x) (hy:InU U y) (s b:Nat) (str flat:Bool) (base:Nat) (ms:List Nat):VQ hp s b str flat base x y ms=VQ hp' s b str flat base x y ms:=by
 cases ms with
 | nil=>exact ZkP h hx hy s b str flat base
 | cons i r=>simp only[VQ];rw[ZkP (Zx8 h (i :: r)) hx hy]
theorem ZsW (h:XD U hp hp') {x y:AV} (hx:InU U x) (hy:InU U y) (s b base:Nat):appT hp s b base x y=appT hp' s b base x y:=by
 unfold appT;rw[Zvq h hy];congr 2
 funext q
 rw[Zvr h hx]
theorem Zo8 (h:XD U hp hp') {x:AV} (hx:∀ id∈Zo x,U id):ZcB hp x=ZcB hp' x:=by
 cases x<;>simp only[ZcB]
 case own id=>rw[h.same id (hx id (by simp[Zo]))]
theorem Zi6 (h:XD U hp hp'):∀ {xs:List AV},(∀ id∈xs.flatMap Zo,U id)→Ws hp xs=Ws hp' xs
 | [],_=>rfl
 | x :: xs,hx=>by
  simp only[Ws];rw[Zo8 h fun id aa=>hx id (by simp only[KS,Ki];exact .inl aa),Zi6 h (xs:=xs) fun id aa=>hx id (by simp only[KS,Ki];exact .inr aa)]
theorem Zz2 (h:XD U hp hp') {n:Nat} {x:AV} (hx:∀ id∈Zo x,U id):Zji hp n x=Zji hp' n x:=by
 cases x<;>simp only[Zji]
 case own id=>rw[h.same id (hx id (by simp[Zo]))]
theorem Zfg (h:XD U hp hp') {n:Nat}:∀ {xs:List AV},(∀ id∈xs.flatMap Zo,U id)→Wt hp n xs=Wt hp' n xs
 | [],_=>rfl
 | x :: xs,hx=>by
  simp only[Wt];rw[Zz2 h fun id aa=>hx id (by simp only[KS,Ki];exact .inl aa),Zfg h (xs:=xs) fun id aa=>hx id (by simp only[KS,Ki];exact .inr aa)]
theorem ZfX (h:XD U hp hp') {n s:Nat}:∀ {xs:List AV},(∀ x∈xs,InU U x)→VO hp n s xs=VO hp' n s xs
 | [],_=>rfl
 | x :: xs,hx=>by
  cases x<;>simp only[VO]
  case agg cs=>rw[Zfg h (hx (.agg cs) (by simp)),ZfX h (xs:=xs) fun x hm=>hx x (Kz _ hm)]
  case own id=>rw[Zfg h (xs:=[.own id]) (fun i hi=>hx (.own id) (by simp) i (by simpa [Zz,ZC,Zo] using hi)),ZfX h (xs:=xs) fun x hm=>hx x (Kz _ hm)]
theorem Zx9 (h:XD U hp hp') {base s n:Nat} {xs:List AV} (hx:∀ x∈xs,InU U x):buildT hp base s n xs=buildT hp' base s n xs:=by
 unfold buildT;rw[ZfX h hx]
theorem Zya (h:XD U hp hp') {x:AV} (hx:InU U x) (slc:List (Option Nat)) (s base:Nat) (vs:List AV) (hv:∀ id∈vs.flatMap Zo,U id):Zcr hp slc s base vs x=Zcr hp' slc s base vs x:=by
 cases x<;>simp only[Zcr]
 case ptr id off=>rw[h.same id (hx id (by simp[Zz,ZC,Zo]))]
 case prow id sz i off=>
  rw[h.same id (hx id (by simp[Zz,ZC,Zo]))];unfold Zep;rw[Zi6 h hv];have ht:∀ n,Wt hp n vs=Wt hp' n vs:=fun n=>Zfg h hv;simp only[ht]
theorem ZsX {x:AV} (hx:InU U x):∀ id∈x.cells.flatMap Zo,U id:=by
 intro id aa;refine hx id ?_;cases x<;>simp only[AV.cells] at aa<;>first
  | (simp[Zo] at aa;done)
  | (obtain⟨c,hc,ab⟩:=KA.1 aa;obtain⟨y,_,rfl⟩:=Li.1 hc;simp[Zo] at ab;done)
  | (simpa [Zz,ZC,Zo] using aa)
theorem ZBJ (h:XD U hp hp') {x:AV} (hx:InU U x):give hp x=give hp' x:=by
 cases x with
 | agg cs=>simp only[give];rw[Zi6 h hx]
 | own id=>exact Zo8 h (x:=.own id) hx
 | _=>rfl
theorem ZkR (h:XD U hp hp'):∀ {xs:List AV},(∀ x∈xs,InU U x)→Uo hp xs=Uo hp' xs
 | [],_=>rfl
 | x :: xs,hx=>by
  simp only[Uo];rw[ZBJ h (hx x (by simp)),ZkR h (xs:=xs) fun y hy=>hx y (Kz _ hy)]
theorem ZhA (h:XD U hp hp') {x:AV} (hx:∀ id∈Zo x,U id):Zkz hp x=Zkz hp' x:=by
 cases x<;>simp only[Zkz]
 case own id=>rw[h.same id (hx id (by simp[Zo]))]
 case ownv id off n=>rw[h.same id (hx id (by simp[Zo]))]
theorem ZsY (h:XD U hp hp'):∀ {xs:List AV},(∀ id∈xs.flatMap Zo,U id)→QJ (Zkz hp) xs=QJ (Zkz hp') xs
 | [],_=>rfl
 | x :: xs,hx=>by
  simp only[QJ];rw[ZhA h fun id aa=>hx id (by simp only[KS,Ki];exact .inl aa),ZsY h (xs:=xs) fun id aa=>hx id (by simp only[KS,Ki];exact .inr aa)]
theorem Zwk (h:XD U hp hp') {x:AV} (hx:InU U x):toD hp x=toD hp' x:=by
 cases x with
 | agg cs=>simp only[toD];rw[ZsY h hx]
 | own id=>exact ZhA h (x:=.own id) hx
 | ownv id off n=>exact ZhA h (x:=.ownv id off n) hx
 | _=>rfl
theorem ZBK (h:XD U hp hp') (m:Bool) {x:AV} (hx:InU U x):ZeH hp m x=ZeH hp' m x:=by
 cases x with
 | own id=>
  simp only[ZeH];cases m
  ·simp only[ZhL];rw[ZhA h (x:=.own id) hx]
  ·rfl
 | agg cs=>
  simp only[ZeH];cases m
  ·simp only[ZhM];rw[Zwk h hx]
  ·rfl
 | ownv id off n=>simp only[ZeH];rw[Zwk h hx]
 | _=>rfl
theorem ZsZ (h:XD U hp hp') (m:Nat→Bool):∀ {xs:List AV} (i:Nat),(∀ x∈xs,InU U x)→args hp m i xs=args hp' m i xs
 | [],i,_=>rfl
 | x :: xs,i,hx=>by
  simp only[args];rw[ZBK h (m i) (hx x (by simp)),ZsZ h m (xs:=xs) (i+1) fun y hy=>hx y (Kz _ hy)]
theorem ZG1 {m:Bool} {x y:AV} (hx:InU U x) (h:ZeH hp m x=some y):InU U y:=by
 unfold ZeH at h;split at h
 ·cases h;exact hx
 ·cases h;exact hx
 ·cases h;exact hx
 ·cases h;exact hx
 ·cases h;exact hx
 ·rename_i id;cases m
  ·simp only[ZhL,asD] at h;obtain⟨d,_,h⟩:=Za h;cases h;exact fun id aa=>by simp[Zz,ZC,Zo] at aa
  ·simp only[ZhL] at h;cases h;exact hx
 ·cases m
  ·simp only[Zjk] at h;cases h;exact fun id aa=>by simp[Zz,ZC,Zo] at aa
  ·simp only[Zjk] at h;cases h;exact hx
 ·cases h;exact hx
 ·cases m
  ·simp only[ZhM,asD] at h;obtain⟨d,_,h⟩:=Za h;cases h;exact fun id aa=>by simp[Zz,ZC,Zo] at aa
  ·simp only[ZhM] at h;split at h
   ·cases h
   ·cases h;exact hx
 ·obtain⟨d,_,h⟩:=Za h;cases h;exact fun id aa=>by simp[Zz,ZC,Zo] at aa
theorem ZC2 {m:Nat→Bool}:∀ {xs ys:List AV} (i:Nat),(∀ x∈xs,InU U x)→args hp m i xs=some ys→∀ y∈ys,InU U y
 | [],ys,i,_,h=>by simp only[args] at h;cases h;simp
 | x :: xs,ys,i,hx,h=>by
  simp only[args] at h;obtain⟨y,h1,h⟩:=Za h;obtain⟨aa,h2,h⟩:=Za h;cases h;intro z hz;rcases Ke.1 hz with rfl | hz
  ·exact ZG1 (hx x (by simp)) h1
  ·exact ZC2 (i+1) (fun y hy=>hx y (by simp[hy])) h2 z hz
theorem Zfh (h:XD U hp hp'):∀ (n:Nat) (todo aa:List Nat),(∀ i∈todo,U i)→Xm hp n todo aa=Xm hp' n todo aa
 | 0,todo,aa,_=>by simp only[Xm]
 | n+1,[],aa,_=>by simp only[Xm]
 | n+1,id :: todo,aa,ht=>by
  simp only[Xm];rw[Zfh h n todo aa fun i hi=>ht i (by simp[hi])];rw[← h.same id (ht id (by simp))];cases hl:lkp hp id with
  | none=>simp only[Zaq];rw[Zfh h n todo aa fun i hi=>ht i (by simp[hi])]
  | some o=>
   simp only[Zaq];rw[Zfh h n (todo++Zal o) (aa++[id]) fun i hi=>by
    rcases Ki.1 hi with hi | hi
    ·exact ht i (by simp[hi])
    ·exact h.closed id o (ht id (by simp)) hl i hi]
theorem ZmG (h:XD U hp hp'):∀ (n:Nat) (todo aa:List Nat),(∀ i∈todo,U i)→(∀ i∈aa,U i)→∀ i∈Xm hp n todo aa,U i
 | 0,todo,aa,_,ha=>by simp only[Xm];exact ha
 | n+1,[],aa,_,ha=>by simp only[Xm];exact ha
 | n+1,id :: todo,aa,ht,ha=>by
  simp only[Xm];split
  ·exact ZmG h n todo aa (fun i hi=>ht i (by simp[hi])) ha
  ·cases hl:lkp hp id with
   | none=>simp only[Zaq];exact ZmG h n todo aa (fun i hi=>ht i (by simp[hi])) ha
   | some o=>
    simp only[Zaq];refine ZmG h n (todo++Zal o) (aa++[id]) (fun i hi=>?_) fun i hi=>?_
    ·rcases Ki.1 hi with hi | hi
     ·exact ht i (by simp[hi])
     ·exact h.closed id o (ht id (by simp)) hl i hi
    ·rcases Ki.1 hi with hi | hi
     ·exact ha i hi
     ·simp at hi;subst hi;exact ht i (by simp)
theorem Zs0 (h:XD U hp hp'):∀ {ids:List Nat},(∀ i∈ids,U i)→Zf1 hp ids=Zf1 hp' ids
 | [],_=>rfl
 | i :: ids,hi=>by simp only[Zf1,h.same i (hi i (by simp)),Zs0 h (ids:=ids) fun j hj=>hi j (Kz _ hj)]
theorem Zs1 (h:XD U hp hp') {base:Nat} {ids aa:List Nat} (hi:∀ i∈ids,U i) (hl:∀ i∈aa,U i) (keep:Bool) (r:AV) (out:List Zm):Zb9 keep hp base ids aa r out=Zb9 keep hp' base ids aa r out:=by
 unfold Zb9;have:ZlJ hp ids out keep=ZlJ hp' ids out keep:=by
  cases keep
  ·exact List.filter_congr fun i hm=>by rw[h.same i (hi i hm)]
  ·rfl
 have h2:∀ {l:List Nat},(∀ i∈l,U i)→(l.any fun i=>Zev (lkp hp i))=l.any fun i=>Zev (lkp hp' i):=by
  intro l
  induction l with
  | nil=>intro _;rfl
  | cons i l ih=>intro hl;simp only[List.any_cons];rw[h.same i (hl i (by simp)),ih fun k hk=>hl k (by simp[hk])]
 rw[this,h2 hl]
theorem ZFI (x:AV):∀ i∈Zfj x,i∈Zo x:=by
 intro i hi;cases x<;>simp only[Zfj,Zo] at hi ⊢ <;> first | exact hi | (simp at hi)
theorem ZD4 (x:AV):∀ i∈ZhI x,i∈Zz x:=by
 intro i hi;cases x with
 | agg cs=>
  obtain⟨c,hc,hi⟩:=KA.1 hi;exact KA.2 ⟨c,hc,ZFI c i hi⟩
 | own id=>exact hi
 | ownv id a b=>exact hi
 | _=>simp[ZhI,Zfj] at hi
theorem Zwl:∀ {xs ys:List AV},(∀ x∈xs,InU U x)→∀ i∈Y7 xs ys,U i
 | [],ys,_,i,hi=>by cases ys<;>simp[Y7] at hi
 | x :: xs,[],_,i,hi=>by simp[Y7] at hi
 | x :: xs,y :: ys,hx,i,hi=>by
  have ih:=Zwl (ys:=ys) fun z hz=>hx z (Kz _ hz);cases y<;>simp only[Y7] at hi<;>first | exact ih i hi | skip
  rcases Ki.1 hi with hi | hi
  ·exact hx x (by simp) i (ZD4 x i hi)
  ·exact ih i hi
theorem ZkS (h:XD U hp hp') (rs:List Nat):∀ {ids:List Nat},(∀ i∈ids,U i)→Zds hp rs ids=Zds hp' rs ids
 | [],_=>rfl
 | i :: ids,hi=>by
  have ih:=ZkS h rs (ids:=ids) fun k hk=>hi k (by simp[hk]);simp only[Zds,LG] at ih ⊢;rw[ih,h.1 i (hi i (by simp))]
theorem Zz3 (h:XD U hp hp') (C:Orc) (m:Nat→Bool) (base f:Nat) {ab:List AV} (hx:∀ x∈ab,InU U x):Zfl C m hp base f ab=Zfl C m hp' base f ab:=by
 unfold Zfl;rw[← ZsZ h m 0 hx];cases ha:args hp m 0 ab with
 | none=>rfl
 | some as1=>
  simp only[bnd];have ad:=ZC2 0 hx ha;have ht:∀ i∈as1.flatMap Zz,U i:=fun i hi=>by
   obtain⟨y,hy,hi⟩:=KA.1 hi;exact ad y hy i hi
  have hf:Yd hp=Yd hp':=rfl;rw[hf,← Zfh h (Yd hp') (as1.flatMap Zz) [] ht];have aa:=ZmG h (Yd hp') (as1.flatMap Zz) [] ht (by simp);unfold ZhN;rw[Zs0 h aa,ZkS h _ aa];congr 1
  congr 1
  funext q
  exact Zs1 h aa (Zwl hx) (m 99) q.1 q.2
end
end Go.Abs
set_option linter.unusedVariables false
set_option linter.unusedSimpArgs false
namespace Go.Abs
open Go
section
variable {U:Nat→Prop} {hp hp' : Hp}
def ZmH (U:Nat→Prop) (x:AV):Prop:=InU U x∧∀ f caps,x=.clo f caps→∀ c∈caps,InU U c
theorem Zj3 {sl:Sl}:∀ {xs:List Opd} {v:AV},v∈evL sl xs→∃ x∈xs,v=evO sl x
 | [],v,h=>by simp[evL] at h
 | x :: xs,v,h=>by
  simp only[evL] at h;rcases Ke.1 h with rfl | h
  ·exact⟨x,by simp,rfl⟩
  ·obtain⟨y,h1,h2⟩:=Zj3 h;exact⟨y,Kz _ h1,h2⟩
theorem ZaS (h:XD U hp hp') (C:Orc) (M:Zs) {sl:Sl} (base:Nat) {c:COp} (hx:∀ x∈ZF c,ZmH U (evO sl x)):vop C M sl hp base c=vop C M sl hp' base c:=by
 cases c<;>simp only[ZF] at hx<;>simp only[vop]
 case buildSl s xs=>
  cases hv:evL sl xs with
  | nil=>rfl
  | cons v vs=>
   simp only[buildSl];rw[ZkR h];intro y hy;rw[← hv] at hy;obtain⟨z,h1,rfl⟩:=Zj3 hy;exact(hx z h1).1
 case load g s a=>rw[ZzZ h (hx a (by simp)).1]
 case store slc s a x=>rw[Zya h (hx a (by simp)).1 _ _ _ _ (ZsX (hx x (by simp)).1)]
 case slice s x lo hi=>rw[Zx6 h (hx x (by simp)).1]
 case slice0 x hi mx=>unfold slice0;rw[ZlB h (hx x (by simp)).1]
 case slice3 s x lo hi mx=>unfold slice3;rw[ZlB h (hx x (by simp)).1]
 case clear s z x=>rw[Zx7 h (hx x (by simp)).1]
 case iaS s x i=>
  congr 1
  funext n
  simp only[Zk1];rw[Zoj h (hx x (by simp)).1]
 case len x=>rw[ZlB h (hx x (by simp)).1]
 case append s b str flat x y=>
  simp only[ZAA];rw[ZmF h (hx x (by simp)).1,ZmF h (hx y (by simp)).1];generalize Ye hp' (evO sl x)=mx;generalize Ye hp' (evO sl y)=my;cases mx with
  | nil=>simp only[Zf3];rw[ZkQ h (hx x (by simp)).1 (hx y (by simp)).1]
  | cons i r=>
   cases my with
   | nil=>simp only[Zf3];rw[ZkQ h (hx x (by simp)).1 (hx y (by simp)).1]
   | cons j t=>simp only[Zf3];rw[ZsW h (hx x (by simp)).1 (hx y (by simp)).1]
 case appT s b f x y=>exact ZsW h (hx x (by simp)).1 (hx y (by simp)).1 s b base
 case buildT s n xs=>
  refine Zx9 h fun y hy=>?_;obtain⟨z,h1,rfl⟩:=Zj3 hy;exact(hx z h1).1
 case call f as1=>
  have hf:=hx f (by simp);cases he:evO sl f<;>simp only[Zf4]
  rename_i g aa;refine Zz3 h C (M g) base g fun y hy=>?_;rcases Ki.1 hy with hy | hy
  ·obtain⟨z,h1,rfl⟩:=Zj3 hy;exact(hx z (by simp[h1])).1
  ·exact hf.2 g aa he y hy
theorem Zwm {Γ:Gh} {w:World} {I:Nat→Prop} {x:AV} {v:Value} (h:Y6 Γ w I x v):∀ id∈Zo x,∃ r,Γ id=some r:=by
 intro id aa;cases x<;>simp only[Zo,KE,KL,Ke,or_false] at aa
 case ptr i off=>subst aa;obtain⟨b,h1,_⟩:=h;exact⟨_,h1⟩
 case prow i sz k off=>subst aa;obtain⟨b,o,n,c,h1,_⟩:=h;exact⟨_,h1⟩
 case own i=>subst aa;obtain⟨a,n,c,sz,h1,_⟩:=h;exact⟨_,h1⟩
 case ownv i off n=>subst aa;obtain⟨a0,m,c,sz,a,h1,_⟩:=h;exact⟨_,h1⟩
 case bnil i e=>subst aa;obtain⟨b,h1,_⟩:=h;exact⟨_,h1⟩
theorem Zok {Γ:Gh} {w:World} {I:Nat→Prop}:∀ {xs:List AV} {vs:List Value},ZA (Y6 Γ w I) xs vs→∀ id∈xs.flatMap Zo,∃ r,Γ id=some r
 | [],[],_,id,aa=>by simp at aa
 | [],_ :: _,h,_,_=>h.elim
 | _ :: _,[],h,_,_=>h.elim
 | x :: xs,v :: vs,h,id,aa=>by
  simp only[KS,Ki] at aa;rcases aa with aa | aa
  ·exact Zwm h.1 id aa
  ·exact Zok h.2 id aa
theorem Zol {Γ:Gh} {w:World} {I:Nat→Prop} {x:AV} {v:Value} (h:Zah Γ w I x v):∀ id∈ZC x,∃ r,Γ id=some r:=by
 intro id aa;by_cases hs:x.small=true
 ·rw[(YX hs (fun k=>k) []).2.2.2.2.2] at aa;rw[(Un hs v).2.1] at h;exact Zwm h id aa
 ·cases x with
  | agg cs=>obtain⟨us,_,h2⟩:=h;exact Zok h2 id aa
  | clo f cs=>obtain⟨us,_,h2⟩:=h;exact Zok h2 id aa
  | tup cs=>exact h.elim
  | d x=>simp[ZC,Zo] at aa
  | _=>exact absurd rfl hs
theorem ZD5 {Γ:Gh} {w:World} {I:Nat→Prop} {x:AV} {v:Value} (h:XS Γ w I x v):∀ id∈ZC x,∃ r,Γ id=some r:=Zol h.rep2
theorem Zs2 {Γ:Gh} {w:World} {I:Nat→Prop}:∀ {xs:List AV} {vs:List Value},ZA (Zah Γ w I) xs vs→∀ id∈xs.flatMap ZC,∃ r,Γ id=some r
 | [],[],_,id,aa=>by simp at aa
 | [],_ :: _,h,_,_=>h.elim
 | _ :: _,[],h,_,_=>h.elim
 | x :: xs,v :: vs,h,id,aa=>by
  simp only[KS,Ki] at aa;rcases aa with aa | aa
  ·exact Zol h.1 id aa
  ·exact Zs2 h.2 id aa
theorem Zz4 {Γ:Gh} {w:World} {I:Nat→Prop} {x:AV} {v:Value} (h:Rep Γ w I x v):∀ id∈Zz x,∃ r,Γ id=some r:=by
 intro id aa;by_cases ht:∃ vs,x=.tup vs
 ·obtain⟨vs,rfl⟩:=ht;obtain⟨us,_,h2⟩:=h;exact Zs2 h2 id aa
 ·have e:Rep Γ w I x v=Zah Γ w I x v:=by cases x<;>first | rfl | exact absurd ⟨_,rfl⟩ ht
  rw[e] at h;refine Zol h id ?_;cases x<;>first | exact aa | exact absurd ⟨_,rfl⟩ ht
theorem Zs3 {Γ:Gh} {w:World} {I:Nat→Prop}:∀ {xs:List AV} {vs:List Value},ZA (XS Γ w I) xs vs→∀ id∈xs.flatMap ZC,∃ r,Γ id=some r
 | [],[],_,id,aa=>by simp at aa
 | [],_ :: _,h,_,_=>h.elim
 | _ :: _,[],h,_,_=>h.elim
 | x :: xs,v :: vs,h,id,aa=>by
  simp only[KS,Ki] at aa;rcases aa with aa | aa
  ·exact ZD5 h.1 id aa
  ·exact Zs3 h.2 id aa
theorem ZFJ {Γ:Gh} {w:World} {I:Nat→Prop} {x:AV} {v:Value} (hn:∀ id,¬U id→Γ id=none) (h:Rep Γ w I x v):ZmH U x:=by
 have ab:∀ id,(∃ r,Γ id=some r)→U id:=fun id ⟨r,hr⟩=>Classical.byContradiction fun hu=>by rw[hn id hu] at hr;cases hr
 refine⟨fun id aa=>ab id (Zz4 h id aa),fun f ad hx c hc=>?_⟩;subst hx;obtain⟨us,_,h2⟩:=h;obtain⟨i,hi⟩:=LF hc;obtain⟨u,_,h3⟩:=h2.get i c hi;exact fun id aa=>ab id (Zz4 h3.rep2.rep id aa)
end
section
variable {P:Program} {nt:Nat} {F A I:Nat→Prop} {Γ:Gh} {U:Nat→Prop} {sl:Sl} {hp:Hp} {a:Act} {w:World}
theorem Sim.good (h:Sim nt F A I Γ U sl hp a w) (t:Nat):ZmH U (gs sl t):=ZFJ h.names (h.slots t)
theorem Sim.agree (h:Sim nt F A I Γ U sl hp a w) {hp' : Hp} (hs:∀ id,U id→lkp hp id=lkp hp' id):XD U hp hp':=by
 refine⟨hs,fun id o hu hl i hi=>?_⟩;have ho:=h.objs id o hl;cases o with
 | box cs=>
  obtain⟨b,cur,e,_,_,_,_,h5,_⟩:=ho;obtain⟨r,hr⟩:=Zs3 h5 i hi;exact Classical.byContradiction fun hu=>by rw[h.names i hu] at hr;cases hr
 | row sz xs ex fz=>simp[Zal] at hi
 | gone=>simp[Zal] at hi
 | tree sz ns xs lk=>simp[Zal] at hi
theorem Oper.wp_ex {o:Oper} {a:Act} {w:World} {K:Act→World→Prop} (h:o.wp P a w K (fun _ _ _=>False)):∃ a' w',K a' w':=by
 unfold Oper.wp at h;generalize (execOp a.eval o).run P w=r at h;cases r with
 | ok n w' =>
  cases n<;>simp only[Oper.upon] at h
  case value v=>exact⟨_,_,h⟩
  case skip=>exact⟨_,_,h⟩
  case defer d=>exact⟨_,_,h⟩
  case enter f args=>
   obtain⟨e,aa,fr,he,_⟩:=h [];cases e with
   | returned v=>exact⟨_,_,he⟩
   | panicked c=>exact he.elim
   | outgrown=>obtain⟨a,w,hf⟩:=he;exact hf.elim
  case row row args=>
   obtain⟨v,aa,he,_⟩:=h default [];exact⟨_,_,he⟩
 | halt x w'=>cases x<;>simp only[Oper.upon] at h
end
end Go.Abs
set_option linter.unusedVariables false
set_option linter.unusedSimpArgs false
namespace Go.Abs
open Go
def X8 (s s' : Sl×Hp):Prop:=(∀ t,gs s.1 t=gs s'.1 t)∧∀ id,lkp s.2 id=lkp s'.2 id
theorem X8.refl (s:Sl×Hp):X8 s s:=⟨fun _=>rfl,fun _=>rfl⟩
theorem X8.symm {s s' : Sl×Hp} (h:X8 s s'):X8 s' s:=⟨fun t=>(h.1 t).symm,fun id=>(h.2 id).symm⟩
theorem X8.trans {a b c:Sl×Hp} (h:X8 a b) (k:X8 b c):X8 a c:=⟨fun t=>(h.1 t).trans (k.1 t),fun id=>(h.2 id).trans (k.2 id)⟩
theorem Zdp:∀ (l:Hp) {hp hp' : Hp},(∀ id,lkp hp id=lkp hp' id)→∀ id,lkp (Zi hp l) id=lkp (Zi hp' l) id
 | [],_,_,h=>h
 | (k,o) :: r,hp,hp',h=>by
  simp only[Zi];exact Zdp r fun id=>by rw[Qm,Qm,h id]
theorem ZmI:∀ (l:List Nat) {hp hp' : Hp},(∀ id,lkp hp id=lkp hp' id)→∀ id,lkp (Qc hp l) id=lkp (Qc hp' l) id
 | [],_,_,h=>h
 | d :: r,hp,hp',h=>by
  simp only[Qc];exact ZmI r fun id=>by rw[Zh4,Zh4,h id]
theorem ZFK (ce:Zf) (dst:Option Nat) {s s' : Sl×Hp} (h:X8 s s'):X8 (ce.on dst s.1 s.2) (ce.on dst s'.1 s'.2):=by
 refine⟨fun t=>?_,fun id=>?_⟩
 ·show gs (Zt (XA ce.gone s.1) dst ce.eff.val) t=gs (Zt (XA ce.gone s'.1) dst ce.eff.val) t;rw[QE,QE,Q1,Q1,h.1 t]
 ·exact Zdp _ (Zdp _ (ZmI _ fun id=>by rw[Qi,Qi,WX,WX,h.2 id])) id
noncomputable def ZP (C:Orc) (M:Zs) (nx i:Nat) (t:Bool) (o:CO) (s:Sl×Hp):Option (Sl×Hp):=
 bnd (Z3 s.1 o.guard) fun b=>if b then YZ (nx+64*i) o.dst s.1 s.2 (WB C M nx i t o.op s.1 s.2) else some (Zt s.1 o.dst (.tup []),s.2)
noncomputable def ZI (C:Orc) (M:Zs) (os:List CO) (nx i:Nat) (s:Sl×Hp):Option (Sl×Hp):=bnd os[i]? fun o=>ZP C M nx i (ZX os i) o s
noncomputable def runL (C:Orc) (M:Zs) (os:List CO) (nx:Nat):List Nat→Sl×Hp→Option (Sl×Hp)
 | [],s=>some s
 | i :: l,s=>bnd (ZI C M os nx i s) (runL C M os nx l)
theorem ZlC (C:Orc) (M:Zs) (os:List CO) (nx:Nat):∀ (aa:List CO) (i:Nat) (t:Bool) (sl:Sl) (hp:Hp),os.drop i=aa →
  Jq C M nx i t aa sl hp=runL C M os nx (List.range' i aa.length) (sl,hp)
 | [],i,t,sl,hp,_=>rfl
 | o :: aa,i,t,sl,hp,hd=>by
  have h1:os[i]?=some o:=by
   have:(os.drop i)[0]?=some o:=by rw[hd];rfl
   rw[Lk] at this;simpa using this
  have h2:os.drop (i+1)=aa:=by rw[← Kaq,hd];rfl
  have h4:CO.starts o=ZX os i:=by simp only[ZX,h1]
  simp only[Jq,Kl,List.range'_succ,runL,ZI,h1,Zh,ZP,h4];cases hw:Z3 sl o.guard with
  | none=>rfl
  | some b=>
   cases b with
   | true=>
    simp only[Zh,Km];cases hs:YZ (nx+64*i) o.dst sl hp (WB C M nx i (ZX os i) o.op sl hp) with
    | none=>rfl
    | some r=>
     simp only[Zh];exact ZlC C M os nx aa (i+1) t r.1 r.2 h2
   | false=>
    simp only[Zh,Ka,Kn];exact ZlC C M os nx aa (i+1) t _ _ h2
theorem ZBL {hp hp' : Hp} (h:∀ id,lkp hp id=lkp hp' id):XD (fun _=>True) hp hp':=⟨fun id _=>h id,fun _ _ _ _ _ _=>trivial⟩
theorem ZD6 (C:Orc) (M:Zs) {s s' : Sl×Hp} (h:X8 s s') (base:Nat) (c:COp):vop C M s.1 s.2 base c=vop C M s'.1 s'.2 base c:=by
 have h1:∀ x:Opd,evO s.1 x=evO s'.1 x:=fun x=>by cases x<;>simp only[evO];exact h.1 _
 rw[XB C M s.2 base (sl:=s.1) (sl':=s'.1) fun x _=>h1 x];exact ZaS (ZBL h.2) C M base fun x _=>⟨fun _ _=>trivial,fun _ _ _ _ _ _ _=>trivial⟩
theorem Zz5 {s s' : Sl×Hp} (h:X8 s s') (g:Option (Nat×Bool)):Z3 s.1 g=Z3 s'.1 g:=by
 cases g with
 | none=>rfl
 | some q=>simp only[Z3,h.1]
theorem Zz6 {C:Orc} {M:Zs} {os:List CO} {nx i:Nat} {s s' r:Sl×Hp} (h:X8 s s') (hr:ZI C M os nx i s=some r):∃ r',ZI C M os nx i s'=some r'∧X8 r r':=by
 unfold ZI at hr ⊢;obtain⟨o,h1,hr⟩:=Za hr;rw[h1,Zh];unfold ZP at hr ⊢;obtain⟨b,h2,hr⟩:=Za hr;rw[← Zz5 h,h2,Zh];cases b with
 | true=>
  simp only[Km] at hr ⊢;obtain⟨ce,h3,h4,rfl⟩:=XK hr;have h5:WB C M nx i (ZX os i) o.op s'.1 s'.2=some ce:=by
   rw[← h3];unfold WB;rw[ZD6 C M h]
  refine⟨ce.on o.dst s'.1 s'.2,?_,ZFK ce o.dst h⟩;unfold YZ;rw[h5,Zh,Kg h4]
 | false=>
  simp only[Ka,Kn] at hr ⊢;cases hr;refine⟨_,rfl,fun t=>?_,h.2⟩;show gs (Zt s.1 o.dst (.tup [])) t=gs (Zt s'.1 o.dst (.tup [])) t;rw[QE,QE,h.1 t]
theorem Zs4 {C:Orc} {M:Zs} {os:List CO} {nx:Nat}:∀ {l:List Nat} {s s' r:Sl×Hp},X8 s s'→runL C M os nx l s=some r→∃ r',runL C M os nx l s'=some r'∧X8 r r'
 | [],s,s',r,h,hr=>by simp only[runL] at hr ⊢;cases hr;exact⟨s',rfl,h⟩
 | i :: l,s,s',r,h,hr=>by
  simp only[runL] at hr ⊢;obtain⟨s1,h1,hr⟩:=Za hr;obtain⟨aa,h2,h3⟩:=Zz6 h h1;rw[h2,Zh];exact Zs4 h3 hr
theorem QH {sl:Sl} {d:Option Nat} {v:AV} {o:CO} (h:QY d (looks o)=true):Z3 (Zt sl d v) o.guard=Z3 sl o.guard:=by
 cases hg:o.guard with
 | none=>rfl
 | some q=>
  simp only[Z3];rw[QE,Kd];intro e;rw[e] at h;simp[QY,looks,hg,ZtG] at h
theorem WZ {sl:Sl} {d:Option Nat} {v:AV} {o:CO} (h:QY d (looks o)=true):∀ x∈ZF o.op,evO (Zt sl d v) x=evO sl x:=by
 intro x hx;cases x with
 | t n=>
  simp only[evO];rw[QE,Kd];intro e;rw[e] at h;simp only[QY,looks,K9,K6,Ln] at h;exact h (Ki.2 (.inl (KA.2 ⟨_,hx,by simp[Uz]⟩)))
 | _=>rfl
theorem ZlD {C:Orc} {M:Zs} {nx i:Nat} {o:CO} {s s' : Sl×Hp} (h:ZP C M nx i false o s=some s') :
  ∃ v adds,s'=(Zt s.1 o.dst v,Zi s.2 adds)∧(∀ k x,(k,x)∈adds→nx+64*i≤k∧k<nx+64*i+64) ∧
   ∀ aa : Sl×Hp,Z3 aa.1 o.guard=Z3 s.1 o.guard→vop C M aa.1 aa.2 (nx+64*i) o.op=vop C M s.1 s.2 (nx+64*i) o.op→ZP C M nx i false o aa=some (Zt aa.1 o.dst v,Zi aa.2 adds):=by
 unfold ZP at h;obtain⟨b,hw,h⟩:=Za h;cases b with
 | true=>
  simp only[Km] at h;obtain⟨ce,h1,h2,rfl⟩:=XK h;unfold WB at h1;simp only[Ka,Kn] at h1;have ad:=h1;unfold ZeA at h1;obtain⟨c,h3,h1⟩:=Za h1;unfold ZhW at h1;split at h1
  ·rename_i e1 e2 e3 e4;cases h1;have ab:∀ s:Sl×Hp,ce.on o.dst s.1 s.2=(Zt s.1 o.dst ce.eff.val,Zi s.2 ce.eff.adds):=by
    intro s;unfold Zf.on Eff.on;rw[e1,e2,e3,e4];rfl
   refine⟨ce.eff.val,ce.eff.adds,ab s,Js h2,fun aa g1 g2=>?_⟩;unfold ZP;rw[g1,hw,Zh];simp only[Km];unfold YZ WB;simp only[Ka,Kn];rw[g2,ad,Zh,Kg h2,ab]
  ·cases h1
 | false=>
  simp only[Ka,Kn] at h;cases h;refine⟨.tup [],[],rfl,fun k x hk=>by simp at hk,fun aa g1 g2=>?_⟩;unfold ZP;rw[g1,hw,Zh];rfl
theorem Zaf {U:Nat→Prop} {a:AV} (h:Vd (.v a)=true):ZmH U a:=by
 simp only[Vd,Kf,List.isEmpty_iff,K9] at h;refine⟨fun id aa=>by rw[h.1] at aa;simp at aa,fun f ab hx=>?_⟩;subst hx;simp[ZwG] at h
section
variable {P:Program} {nt:Nat}
def ZkT (nt:Nat) (s:Sl×Hp) (U:Nat→Prop):Prop:=∃ F A I Γ a w,Sim nt F A I Γ U s.1 s.2 a w
theorem W0 {U:Nat→Prop} {base:Nat} (hf:Xy U base) {adds:Hp} (ha:∀ k x,(k,x)∈adds→base≤k∧k<base+64) (hp:Hp):∀ id,U id→lkp hp id=lkp (Zi hp adds) id:=by
 intro id hu;rw[ZD];intro o ho;obtain⟨h1,h2⟩:=ha id o ho;exact hf id h1 h2 hu
theorem UN {sl:Sl} {d e:Option Nat} (h:Za0 d e=true) (u v:AV) (t:Nat):gs (Zt (Zt sl d u) e v) t=gs (Zt (Zt sl e v) d u) t:=by
 simp only[QE];by_cases h1:e=some t
 ·by_cases h2:d=some t
  ·rw[h1,h2] at h;simp[Za0] at h
  ·simp[h1,h2]
 ·simp[h1]
theorem ZFL {adds aa : Hp} {b b' : Nat} (ha:∀ k x,(k,x)∈adds→b≤k∧k<b+64) (ad : ∀ k x,(k,x)∈aa→b'≤k∧k<b'+64) (hd:b+64≤b'∨b'+64≤b) (hp:Hp) (id:Nat) :
  lkp (Zi (Zi hp adds) aa) id=lkp (Zi (Zi hp aa) adds) id:=by
 have ab:∀ (l:Hp) (hp hp' : Hp),(∀ o,(id,o)∉l)→lkp (Zi hp l) id=lkp hp id:=fun l hp _ h=>ZD l hp id h;by_cases h1:∃ o,(id,o)∈adds
 ·have h2:∀ o,(id,o)∉aa:=fun o ho=>by
   obtain⟨o',ae⟩:=h1;have:=ha id o' ae;have:=ad id o ho;omega
  rw[ZD aa _ id h2];have ab:∀ (l:Hp) (hp hp' : Hp),lkp hp id=lkp hp' id→lkp (Zi hp l) id=lkp (Zi hp' l) id:=by
   intro l
   induction l with
   | nil=>intro hp hp' h;exact h
   | cons q r ih=>
    intro hp hp' h;obtain⟨k,x⟩:=q;simp only[Zi];exact ih _ _ (by rw[Qm,Qm,h])
  exact ab adds _ _ (ZD aa hp id h2).symm
 ·have h2:∀ o,(id,o)∉adds:=fun o ho=>h1 ⟨o,ho⟩;rw[ZD adds _ id h2];have ab:∀ (l:Hp) (hp hp' : Hp),lkp hp id=lkp hp' id→lkp (Zi hp l) id=lkp (Zi hp' l) id:=by
   intro l
   induction l with
   | nil=>intro hp hp' h;exact h
   | cons q r ih=>
    intro hp hp' h;obtain⟨k,x⟩:=q;simp only[Zi];exact ih _ _ (by rw[Qm,Qm,h])
  exact ab aa _ _ (ZD adds hp id h2)
theorem Zs5 {C:Orc} {M:Zs} {os:List CO} {nx i j:Nat} {oi oj:CO} (an:os[i]?=some oi) (ab:os[j]?=some oj) (ae:ZX os j=false) (ao:i≠j) (af:XT oj oi=true)
  (ad:∀ (k:Nat) (o:CO),os[k]?=some o→∀ x∈ZF o.op,Vd x=true) {s s1 s2:Sl×Hp} {U:Nat→Prop} (hs:ZkT nt s U) (ap:Xy U (nx+64*i)) (aq:Xy U (nx+64*j))
  (h1:ZI C M os nx j s=some s1) (h2:ZP C M nx i false oi s1=some s2):∃ t1,ZP C M nx i false oi s=some t1∧∃ t2,ZI C M os nx j t1=some t2∧X8 t2 s2:=by
 obtain⟨F,A,I,Γ,a,w,aa⟩:=hs;simp only[XT,Kf] at af;obtain⟨⟨ag,ar⟩,ah⟩:=af;have good:∀ (k:Nat) (o:CO),os[k]?=some o→∀ x∈ZF o.op,ZmH U (evO s.1 x):=by
  intro k o ho x hx;cases x with
  | t n=>exact aa.good n
  | v y=>exact Zaf (ad k o ho _ hx)
  | f n=>exact⟨fun id au=>by simp[evO,Zz,ZC] at au,fun f av h c hc=>by cases h;simp at hc⟩
 simp only[ZI,ab,Zh,ae] at h1;obtain⟨vj,aj,rfl,ak,aw⟩:=ZlD h1;obtain⟨vi,ai,rfl,al,am⟩:=ZlD h2;dsimp only at am;have e1:ZP C M nx i false oi s=some (Zt s.1 oi.dst vi,Zi s.2 ai):=by
  refine am s (QH ag).symm ?_;rw[XB C M (Zi s.2 aj) (nx+64*i) (WZ (o:=oi) ag)];exact ZaS (aa.agree (W0 aq ak s.2)) C M _ (good i oi an)
 refine⟨_,e1,?_⟩;have e2:ZP C M nx j false oj (Zt s.1 oi.dst vi,Zi s.2 ai)=some (Zt (Zt s.1 oi.dst vi) oj.dst vj,Zi (Zi s.2 ai) aj):=by
  refine aw (Zt s.1 oi.dst vi,Zi s.2 ai) (QH ah) ?_;rw[XB C M (Zi s.2 ai) (nx+64*j) (WZ (o:=oj) ah)];exact(ZaS (aa.agree (W0 ap al s.2)) C M _ (good j oj ab)).symm
 refine⟨_,by simp only[ZI,ab,Zh,ae];exact e2,fun t=>?_,fun id=>?_⟩
 ·exact(UN ar vj vi t).symm
 ·refine ZFL al ak ?_ s.2 id;rcases L4 ao with h | h
  ·left;omega
  ·right;omega
theorem ZD7 {C:Orc} {M:Zs} {os:List CO} {nx i j:Nat} {oi oj:CO} (ab:os[i]?=some oi) (ad:os[j]?=some oj) (ae:ZX os i=false) (af:ZX os j=false) (ag:i≠j) (ah:XT oj oi=true)
  (aa:∀ (k:Nat) (o:CO),os[k]?=some o→∀ x∈ZF o.op,Vd x=true) {s s1 s2:Sl×Hp} {U:Nat→Prop} (hs:ZkT nt s U) (ai:Xy U (nx+64*i)) (aj:Xy U (nx+64*j))
  (h1:ZI C M os nx j s=some s1) (h2:ZI C M os nx i s1=some s2):∃ t1,ZI C M os nx i s=some t1∧∃ t2,ZI C M os nx j t1=some t2∧X8 t2 s2:=by
 have e:∀ s:Sl×Hp,ZI C M os nx i s=ZP C M nx i false oi s:=fun s=>by simp only[ZI,ab,Zh,ae]
 rw[e] at h2;simp only[e];exact Zs5 ab ad af ag ah aa hs ai aj h1 h2
end
end Go.Abs
