/- The abstract semantics and the model: calls,whole;every operation. Own text. -/
import Derived.Test.YtkdjbefmiiibpaaGreatDoorAbsCall3
import Derived.Test.YtkdjbefmiiibpaaGreatDoorAbsDeep2
import Derived.Test.YtkdjbefmiiibpaaGreatDoorAbsEq
import Derived.Test.YtkdjbefmiiibpaaGreatDoorAbsStep9
set_option linter.unusedVariables false
set_option linter.unusedSimpArgs false
namespace Go.Abs
open Go
theorem Zfa (hp:Hp):∀ ids:List Nat,(Zd3 hp ids).length=ids.length
 | []=>rfl
 | _ :: ids=>congrArg (·+1) (Zfa hp ids)
theorem ZrF {ids:List Nat} (h:ids.Nodup) {i j id:Nat} (hi:ids[i]?=some id) (hj:ids[j]?=some id):i=j:=
 (Zjs h hi).symm.trans (Zjs h hj)
section
variable {P:Program} {nt:Nat} {U:Nat→Prop} {F A I:Nat→Prop} {Γ:Gh} {sl:Sl} {hp:Hp} {a:Act} {w:World}
theorem ZxN {Γ' : Gh} {w' : World} {I' : Nat→Prop} {g:Nat→Nat} (hk:Z3 I I' w w'):∀ {xs:List AV} {vs:List Value},Zcj Γ Γ' g (xs.flatMap ZI)→Zz (Rep Γ w I) xs vs→Zz (Rep Γ' w' I') (xs.map (ren g)) vs
 | [],[],_,_=>trivial
 | [],_ :: _,_,h=>h.elim
 | _ :: _,[],_,h=>h.elim
 | x :: xs,v :: vs,hg,h=>⟨Zoq (fun id hid=>hg id (by simp only[List.flatMap_cons,List.mem_append];exact .inl hid)) hk h.1,ZxN hk (fun id hid=>hg id (by simp only[List.flatMap_cons,List.mem_append];exact .inr hid)) h.2⟩
theorem Zkt {ids:List Nat} (hpres:∀ id∈ids,∃ o,lkp hp id=some o) {k:Nat} {o:Zo} (h:lkp (W5 0 ((Zd3 hp ids).map (ZaZ ids))) k=some o) :
  ∃ id o0,ids[k]?=some id∧lkp hp id=some o0∧o=ZaZ ids o0:=by
 rw[Wi] at h
 simp only[Nat.zero_le,if_true,Nat.sub_zero,List.getElem?_map,ZdU,Option.map_map] at h
 cases hk:ids[k]? with
 | none=>rw[hk] at h;cases h
 | some id=>
  rw[hk] at h
  simp only[Option.map_some,Option.some.injEq,Function.comp_apply] at h
  obtain⟨o0,ho0⟩:=hpres id (List.mem_of_getElem? hk)
  rw[ho0] at h
  exact⟨id,o0,rfl,ho0,h.symm⟩
theorem ZAr (h:Sim nt F A I Γ U sl hp a w) {ids lent:List Nat} (hnd:ids.Nodup) (hpres:∀ id∈ids,∃ o,lkp hp id=some o) (hlent:¬lent.any ids.contains=true)
  {as:List AV} {vs:List Value} (has:Zz (Rep Γ w (ZiP Γ w hp I lent)) as vs) (hrefs:∀ id∈as.flatMap ZI,id∈ids) :
  Pre (ZyO Γ w hp ids w.heap.size) (calA Γ w hp ids w.heap.size I A) (ZiP Γ w hp I lent) (Zhb ids Γ) ((Zd3 hp ids).map (ZaZ ids)) (as.map (ren (UA ids))) vs w where
 args:=ZxN (Z3.refl _ w) (Zip hrefs) has
 objs:=fun k o hk=>by
  obtain⟨id,o0,h1,h2,rfl⟩:=Zkt hpres hk
  refine Zue h1 (h.objs id o0 h2) (fun b hb=>.inl hb) (fun b hb=>.inr ⟨id,List.mem_of_getElem? h1,o0,h2,hb⟩) (fun b hb ha=>.inr ⟨hb,ha⟩) fun b hb hfr=>?_
  rcases hfr with hfr | ⟨id',hid',o',hl',_,hb'⟩
  ·exact hfr
  ·have:=h.inj id id' o0 _ b h2 hl' hb hb'
   subst this
   exact absurd (List.any_eq_true.2 ⟨id,hid',by simpa using List.mem_of_getElem? h1⟩) hlent
 inj:=fun i j o o' b hi hj hbi hbj=>by
  obtain⟨id,o0,h1,h2,rfl⟩:=Zkt hpres hi
  obtain⟨id',o1,h3,h4,rfl⟩:=Zkt hpres hj
  have bk:∀ (k id:Nat) (o0:Zo),ids[k]?=some id→Blk (Zhb ids Γ) w k (ZaZ ids o0) b→Blk Γ w id o0 b:=by
   intro k id o0 hk hb
   rcases hb with hb | hb | hb
   ·rw[UG hk] at hb;exact .inl hb
   ·cases o0 with
    | box cs=>exact False.elim hb
    | row sz xs ex fz=>exact False.elim hb
    | deep sz ns xs lk=>obtain⟨g,p,h5,h6⟩:=hb;rw[UG hk] at h5;exact .inr (.inl ⟨g,p,h5,h6⟩)
   ·cases o0 with
    | box cs=>exact .inr (.inr ((Buf.unmap (Zat _) (Buf.unmap (ZdP _) hb)).ren (UG hk).symm))
    | row sz xs ex fz=>exact False.elim hb
    | deep sz ns xs lk=>exact False.elim hb
  have:=h.inj id id' o0 o1 b h2 h4 (bk i id o0 h1 hbi) (bk j id' o1 h3 hbj)
  subst this
  exact ZrF hnd h1 h3
 bound:=fun b hb=>by
  rcases hb with hb | ⟨id,hid,o,hl,_,hb⟩
  ·exact h.bound b hb
  ·exact h.blk_lt hl hb
 fresh:=fun b hb=>.inl hb
 own:=fun b hb=>.inl hb
 names:=fun id hid=>by
  simp only[List.length_map,Zfa] at hid
  simp only[Zhb,List.getElem?_eq_none hid]
 glob:=h.glob.mono ⟨fun b hb=>.inl hb,fun _ _=>rfl⟩
theorem ZCE {C:Orc} {M:Zt} (hC:QD P C) (h:Sim nt F A I Γ U sl hp a w) {o:Oper} {fo:Operand} {as:Array Operand} {ats:Array TypeId} {f' : Opd} {ys:List Opd}
  (ho:o.op=.call { callee:=.value fo,args:=as,argTypes:=ats }) (hf:Qd fo=some f') (hys:Q6 Qd as.toList=some ys) {base:Nat} (hb:Yd U base) (hd:XI nt o.dst=true) {ce:Zc}
  (hok:Xl base (base+64) ce.eff.adds=true) (hv:Zd8 C M hp base (evL sl ys) (evO sl f')=some ce):Zub P nt F A I Γ U sl hp a w o base ce:=by
 have hrf:=h.slOK.ev hf
 unfold Zd8 at hv
 split at hv
 ·rename_i g caps hq
  rw[hq] at hrf
  obtain⟨us,e1,hus⟩:=hrf
  unfold Zdn at hv
  obtain⟨as',has',hv⟩:=Za hv
  unfold Zfe at hv
  split at hv
  ·rename_i hcond
   obtain⟨hrefs,hlent,_⟩:=hcond
   obtain⟨⟨r,out⟩,hq2,hv⟩:=Za hv
   obtain⟨hnd,_,hpres⟩:=Zcr hp (XO hp) (as'.flatMap ZI) [] List.nodup_nil
   have hpres' : ∀ id∈Xd hp (XO hp) (as'.flatMap ZI) [],∃ o,lkp hp id=some o:=fun id hid=>(hpres id hid).resolve_left (by simp)
   have hall:Zz (Rep Γ w I) (evL sl ys++caps) (as.toList.map a.eval++us.toList):=(h.slOK.evL hys).append (hus.mono fun _ _ h=>h.rep2.rep)
   have hargs:=ZxM h.hpOK (I':=ZiP Γ w hp I (V1 (evL sl ys++caps) as')) (fun b hb=>.inl hb) (M g) 0 hall has' (Zv5 h.hpOK _)
   have hpre:=ZAr h hnd hpres' hlent hargs (fun id hid=>by have:=List.all_eq_true.1 hrefs id hid;simpa using this)
   obtain⟨⟨fn,hfn,hname,hbody⟩,hsound⟩:=hC _ _ _ _ _ hq2
   have hcalls:=hsound _ _ _ _ _ _ hpre
   have hrun:(execOp a.eval o).run P w=.ok (.enter g (as.toList.map a.eval++us.toList).toArray) w:=by
    have harr:(as.toList.map a.eval++us.toList).toArray=as.map a.eval++us:=by apply Array.ext';simp
    rw[harr]
    have hn' : ¬fn.name = "runtime.NumGoroutine":=by simpa using hname
    have hb' : ¬fn.body=none:=fun e=>by rw[e] at hbody;cases hbody
    simp[execOp,ho,resolve,Deferred.ofValue,e1,invoke,callFunc,hfn,hn',hb']
   intro K Q hK
   unfold Oper.wp
   rw[hrun,Oper.upon_enter]
   refine hcalls.mono fun e w' he=>?_
   obtain⟨v,I',Γ',rfl,hback⟩:=he
   exact hK v w' (ZyP h hb hnd hpres' hlent hback hv hok hd)
  ·cases hv
 ·cases hv
theorem ZFn {t e:TypeId} (hok:P.cellsOf e≠0):∃ i,P.info? e=some i:=Zkd hok
theorem ZCF {C:Orc} {M:Zt} (hC:QD P C) (h:Sim nt F A I Γ U sl hp a w) {o:Oper} {c:COp} (hc:cOp P o.type o.op=some c) {base:Nat} (hb:Yd U base) (hd:XI nt o.dst=true) {ce:Zc}
  (hok:Xl base (base+64) ce.eff.adds=true) (hv:vop C M sl hp base c=some ce):Zub P nt F A I Γ U sl hp a w o base ce:=by
 have hs:=h.slOK
 have hh:=h.hpOK
 cases hop:o.op with
 | move x=>
  rw[hop] at hc;simp only[cOp] at hc
  obtain⟨y,h1,hc⟩:=Za hc;cases hc
  exact((ZmJ (.inl hop) hs h1 hv).opOK h hb hd).opWp
 | assign x=>
  rw[hop] at hc;simp only[cOp] at hc
  obtain⟨y,h1,hc⟩:=Za hc;cases hc
  exact(Zzx h hop h1 hb hd hok hv).opWp
 | pick x y z=>
  rw[hop] at hc;simp only[cOp] at hc
  obtain⟨x',h1,hc⟩:=Za hc
  obtain⟨y',h2,hc⟩:=Za hc
  obtain⟨z',h3,hc⟩:=Za hc;cases hc
  exact((Zzm hop hs h1 h2 h3 hv).opOK h hb hd).opWp
 | alloc t=>
  rw[hop] at hc;simp only[cOp] at hc
  obtain⟨z,h1,hc⟩:=Za hc;cases hc
  exact(ZBb h hop h1 hb hd hok hv).opWp
 | box t x=>
  rw[hop] at hc;simp only[cOp] at hc
  obtain⟨y,h1,hc⟩:=Za hc;cases hc
  exact(op_box h hop h1 hb hd hok hv).opWp
 | build t ps=>
  rw[hop] at hc;simp only[cOp] at hc
  obtain⟨z,h1,hc⟩:=Za hc
  obtain⟨qs,h2,hc⟩:=Za hc
  split at hc
  ·rename_i hf;cases hc
   exact((Zw7 hop h1 hf hs h2 hv).opOK h hb hd).opWp
  ·cases hc
 | buildSlice t n ps=>
  rw[hop] at hc;simp only[cOp] at hc
  obtain⟨e,h1,hc⟩:=Za hc
  obtain⟨ys,h2,hc⟩:=Za hc
  split at hc
  ·rename_i hf;cases hc
   exact(Zw8 h hop h1 h2 hf.1 hf.2.1 hf.2.2 hb hd hv).opWp
  ·cases hc
 | load t x=>
  rw[hop] at hc;simp only[cOp] at hc
  obtain⟨g,h1,hc⟩:=Za hc
  obtain⟨y,h2,hc⟩:=Za hc;cases hc
  exact((Zzn hop hs hh h1 h2 hv).opOK h hb hd).opWp
 | store t x y=>
  rw[hop] at hc;simp only[cOp] at hc
  obtain⟨x',h1,hc⟩:=Za hc
  obtain⟨y',h2,hc⟩:=Za hc
  split at hc
  ·rename_i hf;cases hc
   exact(ZBc h hop hf h1 h2 hb hd hok hv).opWp
  ·cases hc
 | nilCheck x=>
  rw[hop] at hc;simp only[cOp] at hc
  obtain⟨y,h1,hc⟩:=Za hc;cases hc
  exact((ZqW hop hs h1 hv).opOK h hb hd).opWp
 | binOp op t x y ty' =>
  rw[hop] at hc;simp only[cOp] at hc
  obtain⟨x',h1,hc⟩:=Za hc
  obtain⟨y',h2,hc⟩:=Za hc;cases hc
  have plain:vop C M sl hp base (.bin op (ZjC P t) x' y')=some ce→Zub P nt F A I Γ U sl hp a w o base ce:=fun hv=>((ZAX hop hs h1 h2 hv).opOK h hb hd).opWp
  cases op with
  | eql=>
   simp only[ZwC] at hv
   cases hk:ZuQ P t with
   | some ks=>rw[hk] at hv;exact((ZuE (neg:=false) hop rfl hs h1 h2 hk hv).opOK h hb hd).opWp
   | none=>rw[hk] at hv;exact plain hv
  | neq=>
   simp only[ZwC] at hv
   cases hk:ZuQ P t with
   | some ks=>rw[hk] at hv;exact((ZuE (neg:=true) hop rfl hs h1 h2 hk hv).opOK h hb hd).opWp
   | none=>rw[hk] at hv;exact plain hv
  | _=>exact plain hv
 | unOp op t x=>
  rw[hop] at hc;simp only[cOp] at hc
  obtain⟨x',h1,hc⟩:=Za hc;cases hc
  exact((ZC4 hop hs h1 hv).opOK h hb hd).opWp
 | convert s d x=>
  rw[hop] at hc;simp only[cOp] at hc
  obtain⟨x',h1,hc⟩:=Za hc
  exact((Zzo hop hs h1 hc hv).opOK h hb hd).opWp
 | makeFunc fn fs cs=>
  rw[hop] at hc
  cases fn<;>simp only[cOp] at hc<;>try (cases hc;done)
  split at hc
  ·rename_i he
   obtain⟨ys,h1,hc⟩:=Za hc;cases hc
   exact((ZDd hop he hs h1 hv).opOK h hb hd).opWp
  ·cases hc
 | makeSlice t l cc=>
  rw[hop] at hc;simp only[cOp] at hc
  obtain⟨e,h1,hc⟩:=Za hc
  obtain⟨l',h2,hc⟩:=Za hc
  obtain⟨c',h3,hc⟩:=Za hc
  obtain⟨z,h4,hc⟩:=Za hc
  obtain⟨d,h5,hc⟩:=Za hc
  split at hc
  ·rename_i hf;cases hc
   simp only[vop] at hv
   obtain⟨n,h6,hv⟩:=Za hv
   obtain⟨m,h7,hv⟩:=Za hv
   exact(ZDc h hop h1 h2 h3 h4 h5 hf hb hd h6 h7 hv).opWp
  ·cases hc
 | slice t x lo hi mx=>
  rw[hop] at hc
  have pure:∀ {r:AV} {u:Value},(Instr.sliceAt t (a.eval x) (lo.map a.eval) (hi.map a.eval) (mx.map a.eval)).run P w=.ok u w→Rep Γ w I r u→ce=ceV r→Zub P nt F A I Γ U sl hp a w o base ce:=by
   intro r u h1 h2 h3
   exact(Vk.opOK h hb hd (P:=P) (o:=o) (ce:=ce) ⟨u,r,.inl (by simp[execOp,hop,h1]),h3,h2⟩).opWp
  cases mx with
  | none=>
   simp only[cOp] at hc
   obtain⟨x',h1,hc⟩:=Za hc
   obtain⟨lo',h2,hc⟩:=Za hc
   obtain⟨hi',h3,hc⟩:=Za hc
   unfold ZwD at hc
   split at hc
   ·rename_i e he
    split at hc
    ·rename_i hinf
     cases hc
     obtain⟨r,h4,h5⟩:=opt1_some hv
     obtain⟨u,h6,h7⟩:=Zzl (P:=P) he (Option.isSome_iff_exists.1 hinf) hh (hs.evM h2) (hs.evM h3) (hs.ev h1) h4
     exact pure h6 h7 h5
    ·cases hc
   ·split at hc
    ·rename_i hst
     cases hc
     obtain⟨r,h4,h5⟩:=opt1_some hv
     obtain⟨u,h6,h7⟩:=ZwL (P:=P) hst (hs.evM h2) (hs.evM h3) (hs.ev h1) h4
     exact pure h6 h7 h5
    ·cases hc
  | some m=>
   cases lo with
   | some l=>cases hi with
    | none=>simp only[cOp] at hc;cases hc
    | some hi=>
     simp only[cOp] at hc
     obtain⟨e,he,hc⟩:=Za hc
     split at hc
     ·rename_i hinf
      obtain⟨x',h1,hc⟩:=Za hc
      obtain⟨lo',h0,hc⟩:=Za hc
      obtain⟨hi',h2,hc⟩:=Za hc
      obtain⟨m',h3,hc⟩:=Za hc
      cases hc
      obtain⟨r,h4,h5⟩:=opt1_some hv
      obtain⟨u,h6,h7⟩:=ZwK (P:=P) he (Option.isSome_iff_exists.1 hinf) hh (hs.ev h1) (hs.ev h0) (hs.ev h2) (hs.ev h3) h4
      exact pure h6 h7 h5
     ·cases hc
   | none=>cases hi with
    | none=>simp only[cOp] at hc;cases hc
    | some hi=>
     simp only[cOp] at hc
     obtain⟨e,he,hc⟩:=Za hc
     split at hc
     ·rename_i hinf
      obtain⟨x',h1,hc⟩:=Za hc
      obtain⟨hi',h2,hc⟩:=Za hc
      obtain⟨m',h3,hc⟩:=Za hc
      cases hc
      obtain⟨r,h4,h5⟩:=opt1_some hv
      obtain⟨u,h6,h7⟩:=ZwJ (P:=P) he (Option.isSome_iff_exists.1 hinf) hh (hs.ev h1) (hs.ev h2) (hs.ev h3) h4
      exact pure h6 h7 h5
     ·cases hc
 | fieldAddr s x f=>
  rw[hop] at hc;simp only[cOp] at hc
  obtain⟨q,h1,hc⟩:=Za hc
  obtain⟨x',h2,hc⟩:=Za hc;cases hc
  exact((ZwM hop hs h1 h2 hv).opOK h hb hd).opWp
 | field t x f=>
  rw[hop] at hc;simp only[cOp] at hc
  obtain⟨q,h1,hc⟩:=Za hc
  obtain⟨g,h2,hc⟩:=Za hc
  obtain⟨x',h3,hc⟩:=Za hc;cases hc
  exact((Zzp hop hs h1 h2 h3 hv).opOK h hb hd).opWp
 | indexAddr t x i=>
  rw[hop] at hc;simp only[cOp] at hc
  obtain⟨x',h1,hc⟩:=Za hc
  obtain⟨i',h2,hc⟩:=Za hc
  unfold Zpj at hc
  split at hc
  ·rename_i e he
   split at hc
   ·rename_i hinf
    cases hc
    simp only[vop] at hv
    obtain⟨n,h3,hv⟩:=Za hv
    unfold ZiD at hv
    split at hv
    ·rename_i h0
     obtain⟨r,h4,h5⟩:=opt1_some hv
     obtain⟨u,h6,h7⟩:=Zzh (P:=P) he (Option.isSome_iff_exists.1 hinf) hh (hs.ev h1) (hs.ev h2) h3 h0 h4
     exact(Vk.opOK h hb hd (P:=P) (o:=o) (ce:=ce) ⟨u,r,.inl (by simp[execOp,hop,h6]),h5,h7⟩).opWp
    ·cases hv
   ·cases hc
  ·obtain⟨q,h3,hc⟩:=Za hc
   split at hc
   ·rename_i hinf
    cases hc
    simp only[vop] at hv
    obtain⟨n,h4,hv⟩:=Za hv
    obtain⟨u,r,h5,h6,h7⟩:=Zzg (P:=P) h3 (Option.isSome_iff_exists.1 hinf) (hs.ev h1) (hs.ev h2) h4 hv
    exact(Vk.opOK h hb hd (P:=P) (o:=o) (ce:=ce) ⟨u,r,.inl (by simp[execOp,hop,h5]),h6,h7⟩).opWp
   ·cases hc
 | index t x i=>
  rw[hop] at hc;simp only[cOp] at hc
  obtain⟨x',h1,hc⟩:=Za hc
  obtain⟨i',h2,hc⟩:=Za hc
  exact((ZwN hop hs h1 h2 hc hv).opOK h hb hd).opWp
 | extract x i=>
  rw[hop] at hc;simp only[cOp] at hc
  obtain⟨x',h1,hc⟩:=Za hc;cases hc
  exact((ZAY hop hs h1 hv).opOK h hb hd).opWp
 | call cl=>
  obtain⟨callee,args,ats⟩:=cl
  cases callee with
  | value fo=>
   rw[hop] at hc;simp only[cOp] at hc
   obtain⟨f',h1,hc⟩:=Za hc
   obtain⟨ys,h2,hc⟩:=Za hc;cases hc
   exact ZCE hC h hop h1 h2 hb hd hok hv
  | builtin bi=>
   rw[hop] at hc;simp only[cOp] at hc
   have pureB:∀ {r:AV} {u:Value},(∀ cs,(builtin bi ats o.type cs (args.map a.eval)).run P w=.ok (.value u) w)→Rep Γ w I r u→ce=ceV r→Zub P nt F A I Γ U sl hp a w o base ce:=by
    intro r u h1 h2 h3
    exact(Vk.opOK h hb hd (P:=P) (o:=o) (ce:=ce) ⟨u,r,.inl (by simp only[execOp,hop,resolve,invoke,Sem.run_bind,Sem.run_pure,Result.andThen_ok,h1]),h3,h2⟩).opWp
   unfold ZgD at hc
   split at hc
   ·rename_i x t hargs hats
    have e1:args = #[x]:=by apply Array.ext';simpa using hargs
    have e2:ats = #[t]:=by apply Array.ext';simpa using hats
    subst e1;subst e2
    obtain⟨x',h1,hc⟩:=Za hc
    unfold cLen at hc
    split at hc
    ·rename_i e he
     cases hc
     simp only[vop] at hv
     obtain⟨n,h2,hv⟩:=Za hv
     refine pureB (u:=.int .i64 n) ?_ (ZdZ _ _) (QP hv)
     have:=ZC3 (P:=P) (ty:=o.type) he hh (hs.ev h1) h2
     simp[builtin,this]
    ·split at hc
     ·rename_i hst
      cases hc
      simp only[vop] at hv
      obtain⟨n,h2,hv⟩:=Za hv
      refine pureB (u:=.int .i64 n) ?_ (ZdZ _ _) (QP hv)
      have:=ZAU (P:=P) (w:=w) (ty:=o.type) hst (hs.ev h1) h2
      simp[builtin,this]
     ·cases hc
   ·rename_i s x t u hargs hats
    have e1:args = #[s,x]:=by apply Array.ext';simpa using hargs
    have e2:ats = #[t,u]:=by apply Array.ext';simpa using hats
    subst e1;subst e2
    obtain⟨e,h1,hc⟩:=Za hc
    obtain⟨str,h2,hc⟩:=Za hc
    obtain⟨s',h3,hc⟩:=Za hc
    obtain⟨x',h4,hc⟩:=Za hc
    split at hc
    ·rename_i hel
     cases hc
     exact(Zwb h hop h1 h2 hel h3 h4 hb hd hv).opWp
    ·cases hc
   ·rename_i x y hargs
    have e1:args = #[x,y]:=by apply Array.ext';simpa using hargs
    subst e1
    obtain⟨x',h1,hc⟩:=Za hc
    obtain⟨y',h2,hc⟩:=Za hc
    cases hc
    obtain⟨z,r,h3,h4,h5⟩:=(Zpx (P:=P) (hs.ev h1) (hs.ev h2) ats o.type).1 hv
    exact pureB (u:=z) (by simp[builtin,h3]) h5 h4
   ·rename_i x y hargs
    have e1:args = #[x,y]:=by apply Array.ext';simpa using hargs
    subst e1
    obtain⟨x',h1,hc⟩:=Za hc
    obtain⟨y',h2,hc⟩:=Za hc
    cases hc
    obtain⟨z,r,h3,h4,h5⟩:=(Zpx (P:=P) (hs.ev h1) (hs.ev h2) ats o.type).2 hv
    exact pureB (u:=z) (by simp[builtin,h3]) h5 h4
   ·rename_i x t hargs hats
    have e1:args = #[x]:=by apply Array.ext';simpa using hargs
    have e2:ats = #[t]:=by apply Array.ext';simpa using hats
    subst e1;subst e2
    obtain⟨e,h1,hc⟩:=Za hc
    obtain⟨x',h2,hc⟩:=Za hc
    obtain⟨z,h3,hc⟩:=Za hc
    obtain⟨d,h4,hc⟩:=Za hc
    split at hc
    ·rename_i hel
     cases hc
     exact(ZBf h hop h1 h2 h3 h4 hel hb hd hv).opWp
    ·cases hc
   ·cases hc
  | invoke r m=>rw[hop] at hc;simp only[cOp] at hc;cases hc
 | _=>rw[hop] at hc;simp only[cOp] at hc;cases hc
theorem Zv7 {C:Orc} {M:Zt} (hC:QD P C) (h:Sim nt F A I Γ U sl hp a w) {o:Oper} {c:COp} (hc:Zaf (cOp P o.type o.op)=c) {base:Nat} (hb:Yd U base) (hd:XI nt o.dst=true) {ce:Zc}
  (hok:Xl base (base+64) ce.eff.adds=true) (hv:vop C M sl hp base c=some ce):Zub P nt F A I Γ U sl hp a w o base ce:=by
 cases hq:cOp P o.type o.op with
 | none=>rw[hq] at hc;simp only[Zaf] at hc;subst hc;simp only[vop] at hv;cases hv
 | some c'=>rw[hq] at hc;simp only[Zaf] at hc;subst hc;exact ZCF hC h hq hb hd hok hv
def isBA:COp→Bool
 | .buildSl _ _=>true
 | .append _ _ _ _ _ _=>true
 | .assign _ _=>true
 | _=>false
def NB (x:Option COp):Prop:=∀ c,isBA c=true→x≠some c
theorem NB.bnd {α:Type} {y:Option α} {f:α→Option COp} (h:∀ a,NB (f a)):NB (bnd y f):=by
 intro c hc e
 obtain⟨a,_,e⟩:=Za e
 exact h a c hc e
theorem NB.ite {c:Prop} [Decidable c] {x y:Option COp} (hx:NB x) (hy:NB y):NB (if c then x else y):=by
 split<;>assumption
theorem NB.none:NB none:=fun _ _ e=>by cases e
theorem NB.some {c:COp} (h:isBA c=false):NB (some c):=fun c' hc e=>by cases e;rw[h] at hc;cases hc
def JQ:Op→Bool
 | .buildSlice _ _ _=>true
 | .call { callee:=.builtin .append,args:=_,argTypes:=_ }=>true
 | .assign _=>true
 | _=>false
theorem Zlf {ty:TypeId} {op:Op} (h:JQ op=false):NB (cOp P ty op):=by
 unfold cOp
 split<;>try (simp[JQ] at h;done)
 all_goals (try unfold Zpj);(try unfold Ztc);(try unfold Zx4);(try unfold ZwD);(try unfold ZgD)
 all_goals repeat' first | exact NB.none | exact NB.some rfl | refine NB.bnd fun _=>?_ | refine NB.ite ?_ ?_ | split
 all_goals first
  | (unfold cLen;split<;>repeat' first | exact NB.none | exact NB.some rfl | refine NB.ite ?_ ?_)
  | (unfold ZwC;split<;>(try unfold ZuR)<;>(try split)<;>exact NB.some rfl)
  | exact absurd h (by simp[JQ])
  | skip
theorem ZCG {C:Orc} {M:Zt} (hC:QD P C) (h:Sim nt F A I Γ U sl hp a w) {o:Oper} {c:COp} (hc:Zaf (cOp P o.type o.op)=ZjH c) {base:Nat} (hb:Yd U base) (hd:XI nt o.dst=true) {ce:Zc}
  (hok:Xl base (base+64) ce.eff.adds=true) (hv:vop C M sl hp base c=some ce):Zub P nt F A I Γ U sl hp a w o base ce:=by
 by_cases hap:∃ s b f x y,c=.appDp s b f x y
 ·obtain⟨s,b,f,x,y,rfl⟩:=hap
  simp only[ZjH] at hc
  simp only[vop] at hv
  cases hq:cOp P o.type o.op with
  | none=>rw[hq] at hc;simp[Zaf] at hc
  | some c' =>
   rw[hq] at hc
   simp only[Zaf] at hc
   subst hc
   cases hop:JQ o.op with
   | false=>exact(Zlf hop _ rfl hq).elim
   | true=>
    unfold JQ at hop
    split at hop
    ·rename_i hop'
     rw[hop'] at hq
     simp only[cOp] at hq
     obtain⟨_,_,hq⟩:=Za hq
     obtain⟨_,_,hq⟩:=Za hq
     split at hq<;>cases hq
    ·rename_i as ats hop'
     rw[hop'] at hq
     simp only[cOp] at hq
     unfold ZgD at hq
     split at hq
     ·rename_i hb _ _;cases hb
     ·rename_i s' x' t u _ hargs hats
      have e1:as = #[s',x']:=by apply Array.ext';simpa using hargs
      have e2:ats = #[t,u]:=by apply Array.ext';simpa using hats
      subst e1;subst e2
      obtain⟨e,h1,hq⟩:=Za hq
      obtain⟨str,h2,hq⟩:=Za hq
      obtain⟨s2,h3,hq⟩:=Za hq
      obtain⟨x2,h4,hq⟩:=Za hq
      split at hq
      ·rename_i hel
       cases hq
       exact(Zwc h hop' h1 h2 hel h3 h4 hb hd hv).opWp
      ·cases hq
     ·rename_i hb _;cases hb
     ·rename_i hb _;cases hb
     ·rename_i hb _ _;cases hb
     ·cases hq
    ·rename_i hop'
     rw[hop'] at hq
     simp only[cOp] at hq
     obtain⟨_,_,hq⟩:=Za hq
     cases hq
    ·cases hop
 by_cases hag:∃ s n x,c=.asgDp s n x
 ·obtain⟨s,n,y,rfl⟩:=hag
  simp only[ZjH] at hc
  simp only[vop] at hv
  cases hq:cOp P o.type o.op with
  | none=>rw[hq] at hc;simp[Zaf] at hc
  | some c' =>
   rw[hq] at hc
   simp only[Zaf] at hc
   subst hc
   cases hop:JQ o.op with
   | false=>exact(Zlf hop _ rfl hq).elim
   | true=>
    unfold JQ at hop
    split at hop
    ·rename_i hop'
     rw[hop'] at hq
     simp only[cOp] at hq
     obtain⟨_,_,hq⟩:=Za hq
     obtain⟨_,_,hq⟩:=Za hq
     split at hq<;>cases hq
    ·rename_i as ats hop'
     rw[hop'] at hq
     simp only[cOp] at hq
     unfold ZgD at hq
     split at hq
     ·rename_i hb _ _;cases hb
     ·obtain⟨_,_,hq⟩:=Za hq
      obtain⟨_,_,hq⟩:=Za hq
      obtain⟨_,_,hq⟩:=Za hq
      obtain⟨_,_,hq⟩:=Za hq
      split at hq<;>cases hq
     ·rename_i hb _;cases hb
     ·rename_i hb _;cases hb
     ·rename_i hb _ _;cases hb
     ·cases hq
    ·rename_i hop'
     rw[hop'] at hq
     simp only[cOp] at hq
     obtain⟨z,h1,hq⟩:=Za hq
     simp only[Option.some.injEq,COp.assign.injEq] at hq
     obtain⟨_,rfl⟩:=hq
     exact(ZAs h hop' h1 hb hd hv).opWp
    ·cases hop
 by_cases hdp:∃ s n xs,c=.buildDp s n xs
 ·obtain⟨s,n,ys,rfl⟩:=hdp
  simp only[ZjH] at hc
  simp only[vop] at hv
  cases hq:cOp P o.type o.op with
  | none=>rw[hq] at hc;simp[Zaf] at hc
  | some c' =>
   rw[hq] at hc
   simp only[Zaf] at hc
   subst hc
   cases hop:o.op<;>rw[hop] at hq
   case buildSlice t m ps=>
    simp only[cOp] at hq
    obtain⟨e,h1,hq⟩:=Za hq
    obtain⟨xs,h2,hq⟩:=Za hq
    split at hq
    ·rename_i hcond
     obtain⟨c1,c2,c3⟩:=hcond
     cases hq
     exact(Zv8 h hop h1 h2 c1 c2 c3 hb hd hv).opWp
    ·cases hq
   case call cc=>
    cases hsl:JQ (.call cc) with
    | false=>exact(Zlf hsl _ rfl hq).elim
    | true=>
     unfold JQ at hsl
     split at hsl
     ·rename_i e;cases e
     ·rename_i as ats e
      cases e
      simp only[cOp] at hq
      unfold ZgD at hq
      split at hq
      ·rename_i hb _ _;cases hb
      ·obtain⟨_,_,hq⟩:=Za hq
       obtain⟨_,_,hq⟩:=Za hq
       obtain⟨_,_,hq⟩:=Za hq
       obtain⟨_,_,hq⟩:=Za hq
       split at hq<;>cases hq
      ·rename_i hb _;cases hb
      ·rename_i hb _;cases hb
      ·rename_i hb _ _;cases hb
      ·cases hq
     ·rename_i e;cases e
     ·cases hsl
   case assign x=>
    simp only[cOp] at hq
    obtain⟨_,_,hq⟩:=Za hq
    cases hq
   all_goals exact(Zlf (by simp[JQ]) _ rfl hq).elim
 ·have:ZjH c=c:=by cases c<;>first | rfl | exact absurd ⟨_,_,_,rfl⟩ hdp | exact absurd ⟨_,_,_,_,_,rfl⟩ hap | exact absurd ⟨_,_,_,rfl⟩ hag
  rw[this] at hc
  exact Zv7 hC h hc hb hd hok hv
end
end Go.Abs
