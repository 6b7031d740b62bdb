/- Own text. -/
import Derived.Test.YtefabmohhbhlfaaAbsCall3
import Derived.Test.YtefabmohhbhlfaaAbsTreeOp2
import Derived.Test.YtefabmohhbhlfaaAbsEq
import Derived.Test.YtefabmohhbhlfaaAbsStep9
set_option linter.unusedVariables false
set_option linter.unusedSimpArgs false
namespace Go.Abs
open Go
theorem Jj (hp:Hp):∀ ids:List Nat,(JB hp ids).length=ids.length
 | []=>rfl
 | _ :: ids=>congrArg (·+1) (Jj hp ids)
theorem Zjh {ids:List Nat} (h:ids.Nodup) {i j id:Nat} (hi:ids[i]?=some id) (hj:ids[j]?=some id):i=j:=
 (ZbP h hi).symm.trans (ZbP h hj)
theorem Zs:∀ (l:Hp) (hp:Hp) (id:Nat),(∀ o,(id,o)∉l)→lkp (Zd hp l) id=lkp hp id
 | [],hp,id,_=>rfl
 | (k,x) :: r,hp,id,h=>by
  simp only[Zd];rw[Zs r _ id fun o ho=>h o (Kt _ ho),ZW,Kn];intro e;subst e;exact h x (K9 ..)
section
variable {P:Program} {nt:Nat} {U:Nat→Prop} {F A I:Nat→Prop} {Γ:Gh} {sl:Sl} {hp:Hp} {a:Act} {w:World}
theorem Zof {Γ' : Gh} {w' : World} {I' : Nat→Prop} {g:Nat→Nat} (hk:ZB I I' w w'):∀ {xs:List AV} {vs:List Value},WP Γ Γ' g (xs.flatMap Zo)→Zq (Rep Γ w I) xs vs→Zq (Rep Γ' w' I') (xs.map (ren g)) vs
 | [],[],_,_=>trivial
 | [],_ :: _,_,h=>h.elim
 | _ :: _,[],_,h=>h.elim
 | x :: xs,v :: vs,hg,h=>⟨Zf4 (fun id aa=>hg id (by simp only[KD,Kd];exact .inl aa)) hk h.1,Zof hk (fun id aa=>hg id (by simp only[KD,Kd];exact .inr aa)) h.2⟩
theorem ZcE {ids:List Nat} (aa:∀ id∈ids,∃ o,lkp hp id=some o) {k:Nat} {o:Zh} (h:lkp (YL 0 ((JB hp ids).map (W0 ids))) k=some o) :
  ∃ id o0,ids[k]?=some id∧lkp hp id=some o0∧o=W0 ids o0:=by
 rw[VZ] at h;simp only[Nat.zero_le,Kk,LV,Kx,Zgm,Option.map_map] at h;cases hk:ids[k]? with
 | none=>rw[hk] at h;cases h
 | some id=>
  rw[hk] at h;simp only[KW,Option.some.injEq,Function.comp_apply] at h;obtain⟨o0,ab⟩:=aa id (Ke hk);rw[ab] at h;exact⟨id,o0,rfl,ab,h.symm⟩
theorem Zqi (h:Sim nt F A I Γ U sl hp a w) {ids ab:List Nat} (aj:ids.Nodup) (aa:∀ id∈ids,∃ o,lkp hp id=some o) (ad:¬ab.any ids.contains=true)
  {as:List AV} {vs:List Value} (ak:Zq (Rep Γ w (Zbx Γ w hp I ab)) as vs) (ae:∀ id∈as.flatMap Zo,id∈ids) :
  Pre (Zo6 Γ w hp ids w.heap.size) (calA Γ w hp ids w.heap.size I A) (Zbx Γ w hp I ab) (Za4 ids Γ) ((JB hp ids).map (W0 ids)) (as.map (ren (Yu ids))) vs w where
 args:=Zof (ZB.refl _ w) (Za5 ae) ak
 objs:=fun k o hk=>by
  obtain⟨id,o0,h1,h2,rfl⟩:=ZcE aa hk;refine Zlu h1 (h.objs id o0 h2) (fun b hb=>.inl hb) (fun b hb=>.inr ⟨id,Ke h1,o0,h2,hb⟩) (fun b hb ha=>.inr ⟨hb,ha⟩) fun b hb ag=>?_;rcases ag with ag | ⟨af,ah,o',al,_,am⟩
  ·exact ag
  ·have:=h.inj id af o0 _ b h2 al hb am;subst this;exact absurd (Lr.2 ⟨id,ah,by simpa using Ke h1⟩) ad
 inj:=fun i j o o' b hi hj an ao=>by
  obtain⟨id,o0,h1,h2,rfl⟩:=ZcE aa hi;obtain⟨af,o1,h3,h4,rfl⟩:=ZcE aa hj;have bk:∀ (k id:Nat) (o0:Zh),ids[k]?=some id→Blk (Za4 ids Γ) w k (W0 ids o0) b→Blk Γ w id o0 b:=by
   intro k id o0 hk hb;rcases hb with hb | hb | hb
   ·rw[XX hk] at hb;unfold W0 at hb;rw[ZeA,ZcR] at hb;exact .inl hb
   ·cases o0 with
    | box cs=>exact False.elim hb
    | row sz xs ex fz=>exact False.elim hb
    | gone=>exact False.elim hb
    | tree sz ns xs lk=>
     obtain⟨g,p,h5,h6⟩:=hb;rw[XX hk] at h5;rw[VM,VN] at h6;exact .inr (.inl ⟨g,p,h5,h6⟩)
   ·cases o0 with
    | box cs=>exact .inr (.inr ((Buf.unmap (VC _) (Buf.unmap (UB _) hb)).ren (XX hk).symm))
    | row sz xs ex fz=>exact False.elim hb
    | gone=>exact False.elim hb
    | tree sz ns xs lk=>exact False.elim hb
  have:=h.inj id af o0 o1 b h2 h4 (bk i id o0 h1 an) (bk j af o1 h3 ao);subst this;exact Zjh aj h1 h3
 bound:=fun b hb=>by
  rcases hb with hb | ⟨id,ai,o,hl,_,hb⟩
  ·exact h.bound b hb
  ·exact h.blk_lt hl hb
 fresh:=fun b hb=>.inl hb
 own:=fun b hb=>.inl hb
 names:=fun id ai=>by
  simp only[Kw,Jj] at ai;simp only[Za4,KR ai]
 glob:=h.glob.mono ⟨fun b hb=>.inl hb,fun _ _=>rfl⟩
theorem ZrE {C:Orc} {M:Zg} (hC:Qh P C) (h:Sim nt F A I Γ U sl hp a w) {o:Oper} {fo:Operand} {as:Array Operand} {ay:Array TypeId} {f' : Opd} {ys:List Opd}
  (ho:o.op=.call { callee:=.value fo,args:=as,argTypes:=ay }) (hf:ZJ fo=some f') (az:Qb ZJ as.toList=some ys) {base:Nat} (hb:Qx U base) (hd:Qm nt o.dst=true) {ce:Zb}
  (a0:Qr base (base+64) ce.eff.adds=true) (hv:JE C M hp base (evL sl ys) (evO sl f')=some ce):Zls P nt F A I Γ U sl hp a w o base ce:=by
 have aw:=h.slOK.ev hf;unfold JE at hv;split at hv
 ·rename_i g ag hq;rw[hq] at aw;obtain⟨us,e1,a1⟩:=aw;unfold Jo at hv;obtain⟨an,ao,hv⟩:=Za hv;unfold Zaq at hv;split at hv
  ·rename_i ah;obtain⟨ai,ab,_⟩:=ah;obtain⟨⟨r,out⟩,a2,hv⟩:=Za hv;obtain⟨ax,_,aj⟩:=VY hp (QX hp) (an.flatMap Zo) [] Lm;have aa : ∀ id∈Qv hp (QX hp) (an.flatMap Zo) [],∃ o,lkp hp id=some o:=fun id ap=>(aj id ap).resolve_left (by simp);have aq:Zq (Rep Γ w I) (evL sl ys++ag) (as.toList.map a.eval++us.toList):=(h.slOK.evL az).append (a1.mono fun _ _ h=>h.rep2.rep);have ak:=Zoe h.hpOK (I':=Zbx Γ w hp I (Xz (evL sl ys++ag) an)) (fun b hb=>.inl hb) (M g) 0 aq ao (ZmV h.hpOK _);have ar:=Zqi h ax aa ab ak (fun id ap=>by have:=KK.1 ai id ap;simpa using this);obtain⟨⟨fn,a3,al,ad⟩,ae⟩:=hC _ _ _ _ _ a2
   have af:=ae _ _ _ _ _ _ ar;have au:(execOp a.eval o).run P w=.ok (.enter g (as.toList.map a.eval++us.toList).toArray) w:=by
    have av:(as.toList.map a.eval++us.toList).toArray=as.map a.eval++us:=by apply Array.ext';simp
    rw[av];have a4 : ¬fn.name = "runtime.NumGoroutine":=by simpa using al
    have a5 : ¬fn.body=none:=fun e=>by rw[e] at ad;cases ad
    simp[execOp,ho,resolve,Deferred.ofValue,e1,invoke,callFunc,a3,a4,a5]
   intro K Q hK;unfold Oper.wp;rw[au,Oper.upon_enter];refine af.mono fun e w' he=>?_;obtain⟨v,I',Γ',rfl,am⟩:=he;exact hK v w' (Zo7 h hb ax aa ab am hv a0 hd)
  ·cases hv
 ·cases hv
theorem ZsM {t e:TypeId} (aa:P.cellsOf e≠0):∃ i,P.info? e=some i:=Zct aa
theorem ZrF {C:Orc} {M:Zg} (hC:Qh P C) (h:Sim nt F A I Γ U sl hp a w) {o:Oper} {c:COp} (hc:cOp P o.type o.op=some c) {base:Nat} (hb:Qx U base) (hd:Qm nt o.dst=true) {ce:Zb}
  (ag:Qr base (base+64) ce.eff.adds=true) (hv:vop C M sl hp base c=some ce):Zls P nt F A I Γ U sl hp a w o base ce:=by
 have hs:=h.slOK;have hh:=h.hpOK;cases hop:o.op with
 | move x=>
  rw[hop] at hc;simp only[cOp] at hc;obtain⟨y,h1,hc⟩:=Za hc;cases hc;exact((Zez (.inl hop) hs h1 hv).opOK h hb hd).opWp
 | assign x=>
  rw[hop] at hc;simp only[cOp] at hc;obtain⟨y,h1,hc⟩:=Za hc;cases hc;exact(ZpS h hop h1 hb hd ag hv).opWp
 | pick x y z=>
  rw[hop] at hc;simp only[cOp] at hc;obtain⟨x',h1,hc⟩:=Za hc;obtain⟨y',h2,hc⟩:=Za hc;obtain⟨z',h3,hc⟩:=Za hc;cases hc;exact((ZpI hop hs h1 h2 h3 hv).opOK h hb hd).opWp
 | alloc t=>
  rw[hop] at hc;simp only[cOp] at hc;obtain⟨z,h1,hc⟩:=Za hc;cases hc;exact(Zq1 h hop h1 hb hd ag hv).opWp
 | box t x=>
  rw[hop] at hc;simp only[cOp] at hc;obtain⟨y,h1,hc⟩:=Za hc;cases hc;exact(op_box h hop h1 hb hd ag hv).opWp
 | build t ps=>
  rw[hop] at hc;simp only[cOp] at hc;obtain⟨z,h1,hc⟩:=Za hc;obtain⟨qs,h2,hc⟩:=Za hc;split at hc
  ·rename_i hf;cases hc;exact((ZnP hop h1 hf hs h2 hv).opOK h hb hd).opWp
  ·cases hc
 | buildSlice t n ps=>
  rw[hop] at hc;simp only[cOp] at hc;obtain⟨e,h1,hc⟩:=Za hc;obtain⟨ys,h2,hc⟩:=Za hc;split at hc
  ·rename_i hf;cases hc;exact(ZnQ h hop h1 h2 hf.1 hf.2.1 hf.2.2 hb hd hv).opWp
  ·cases hc
 | load t x=>
  rw[hop] at hc;simp only[cOp] at hc;obtain⟨g,h1,hc⟩:=Za hc;obtain⟨y,h2,hc⟩:=Za hc;cases hc;exact((ZpJ hop hs hh h1 h2 hv).opOK h hb hd).opWp
 | store t x y=>
  rw[hop] at hc;simp only[cOp] at hc;obtain⟨x',h1,hc⟩:=Za hc;obtain⟨y',h2,hc⟩:=Za hc;split at hc
  ·rename_i hf;cases hc;exact(Zq2 h hop hf h1 h2 hb hd ag hv).opWp
  ·cases hc
 | nilCheck x=>
  rw[hop] at hc;simp only[cOp] at hc;obtain⟨y,h1,hc⟩:=Za hc;cases hc;exact((ZiR hop hs h1 hv).opOK h hb hd).opWp
 | binOp op t x y ty' =>
  rw[hop] at hc;simp only[cOp] at hc;obtain⟨x',h1,hc⟩:=Za hc;obtain⟨y',h2,hc⟩:=Za hc;cases hc;have plain:vop C M sl hp base (.bin op (Zb1 P t) x' y')=some ce→Zls P nt F A I Γ U sl hp a w o base ce:=fun hv=>((ZqM hop hs h1 h2 hv).opOK h hb hd).opWp;cases op with
  | eql=>
   simp only[Znk] at hv;cases hk:Zl6 P t with
   | some ks=>rw[hk] at hv;exact((ZlT (neg:=false) hop rfl hs h1 h2 hk hv).opOK h hb hd).opWp
   | none=>rw[hk] at hv;exact plain hv
  | neq=>
   simp only[Znk] at hv;cases hk:Zl6 P t with
   | some ks=>rw[hk] at hv;exact((ZlT (neg:=true) hop rfl hs h1 h2 hk hv).opOK h hb hd).opWp
   | none=>rw[hk] at hv;exact plain hv
  | _=>exact plain hv
 | unOp op t x=>
  rw[hop] at hc;simp only[cOp] at hc;obtain⟨x',h1,hc⟩:=Za hc;cases hc;exact((Zr4 hop hs h1 hv).opOK h hb hd).opWp
 | convert s d x=>
  rw[hop] at hc;simp only[cOp] at hc;obtain⟨x',h1,hc⟩:=Za hc;exact((ZpK hop hs h1 hc hv).opOK h hb hd).opWp
 | makeFunc fn fs cs=>
  rw[hop] at hc;cases fn<;>simp only[cOp] at hc<;>try (cases hc;done)
  split at hc
  ·rename_i he;obtain⟨ys,h1,hc⟩:=Za hc;cases hc;exact((Zsc hop he hs h1 hv).opOK h hb hd).opWp
  ·cases hc
 | makeSlice t l cc=>
  rw[hop] at hc;simp only[cOp] at hc;obtain⟨e,h1,hc⟩:=Za hc;obtain⟨l',h2,hc⟩:=Za hc;obtain⟨c',h3,hc⟩:=Za hc;obtain⟨z,h4,hc⟩:=Za hc;obtain⟨d,h5,hc⟩:=Za hc;split at hc
  ·rename_i hf;cases hc;simp only[vop] at hv;obtain⟨n,h6,hv⟩:=Za hv;obtain⟨m,h7,hv⟩:=Za hv;exact(Zsb h hop h1 h2 h3 h4 h5 hf hb hd h6 h7 hv).opWp
  ·cases hc
 | slice t x lo hi mx=>
  rw[hop] at hc;have pure:∀ {r:AV} {u:Value},(Instr.sliceAt t (a.eval x) (lo.map a.eval) (hi.map a.eval) (mx.map a.eval)).run P w=.ok u w→Rep Γ w I r u→ce=ceV r→Zls P nt F A I Γ U sl hp a w o base ce:=by
   intro r u h1 h2 h3;exact(Q9.opOK h hb hd (P:=P) (o:=o) (ce:=ce) ⟨u,r,.inl (by simp[execOp,hop,h1]),h3,h2⟩).opWp
  cases mx with
  | none=>
   simp only[cOp] at hc;obtain⟨x',h1,hc⟩:=Za hc;obtain⟨ak,h2,hc⟩:=Za hc;obtain⟨aj,h3,hc⟩:=Za hc;unfold Znl at hc;split at hc
   ·rename_i e he;split at hc
    ·rename_i ab;cases hc;obtain⟨r,h4,h5⟩:=opt1_some hv;obtain⟨u,h6,h7⟩:=ZpH (P:=P) he (K6.1 ab) hh (hs.evM h2) (hs.evM h3) (hs.ev h1) h4;exact pure h6 h7 h5
    ·cases hc
   ·split at hc
    ·rename_i ah;cases hc;obtain⟨r,h4,h5⟩:=opt1_some hv;obtain⟨u,h6,h7⟩:=Znr (P:=P) ah (hs.evM h2) (hs.evM h3) (hs.ev h1) h4;exact pure h6 h7 h5
    ·cases hc
  | some m=>
   cases lo with
   | some l=>cases hi with
    | none=>simp only[cOp] at hc;cases hc
    | some hi=>
     simp only[cOp] at hc;obtain⟨e,he,hc⟩:=Za hc;split at hc
     ·rename_i ab;obtain⟨x',h1,hc⟩:=Za hc;obtain⟨ak,h0,hc⟩:=Za hc;obtain⟨aj,h2,hc⟩:=Za hc;obtain⟨m',h3,hc⟩:=Za hc;cases hc;obtain⟨r,h4,h5⟩:=opt1_some hv;obtain⟨u,h6,h7⟩:=Znq (P:=P) he (K6.1 ab) hh (hs.ev h1) (hs.ev h0) (hs.ev h2) (hs.ev h3) h4;exact pure h6 h7 h5
     ·cases hc
   | none=>cases hi with
    | none=>simp only[cOp] at hc;cases hc
    | some hi=>
     simp only[cOp] at hc;obtain⟨e,he,hc⟩:=Za hc;split at hc
     ·rename_i ab;obtain⟨x',h1,hc⟩:=Za hc;obtain⟨aj,h2,hc⟩:=Za hc;obtain⟨m',h3,hc⟩:=Za hc;cases hc;obtain⟨r,h4,h5⟩:=opt1_some hv;obtain⟨u,h6,h7⟩:=Znp (P:=P) he (K6.1 ab) hh (hs.ev h1) (hs.ev h2) (hs.ev h3) h4;exact pure h6 h7 h5
     ·cases hc
 | fieldAddr s x f=>
  rw[hop] at hc;simp only[cOp] at hc;obtain⟨q,h1,hc⟩:=Za hc;obtain⟨x',h2,hc⟩:=Za hc;cases hc;exact((Zns hop hs h1 h2 hv).opOK h hb hd).opWp
 | field t x f=>
  rw[hop] at hc;simp only[cOp] at hc;obtain⟨q,h1,hc⟩:=Za hc;obtain⟨g,h2,hc⟩:=Za hc;obtain⟨x',h3,hc⟩:=Za hc;cases hc;exact((ZpL hop hs h1 h2 h3 hv).opOK h hb hd).opWp
 | indexAddr t x i=>
  rw[hop] at hc;simp only[cOp] at hc;obtain⟨x',h1,hc⟩:=Za hc;obtain⟨i',h2,hc⟩:=Za hc;unfold Zg7 at hc;split at hc
  ·rename_i e he;split at hc
   ·rename_i ab;cases hc;simp only[vop] at hv;obtain⟨n,h3,hv⟩:=Za hv;unfold Zcv at hv;split at hv
    ·rename_i h0;obtain⟨r,h4,h5⟩:=opt1_some hv;obtain⟨u,h6,h7⟩:=Zpx (P:=P) he (K6.1 ab) hh (hs.ev h1) (hs.ev h2) h3 h0 h4;exact(Q9.opOK h hb hd (P:=P) (o:=o) (ce:=ce) ⟨u,r,.inl (by simp[execOp,hop,h6]),h5,h7⟩).opWp
    ·cases hv
   ·cases hc
  ·obtain⟨q,h3,hc⟩:=Za hc;split at hc
   ·rename_i ab;cases hc;simp only[vop] at hv;obtain⟨n,h4,hv⟩:=Za hv;obtain⟨u,r,h5,h6,h7⟩:=Zpw (P:=P) h3 (K6.1 ab) (hs.ev h1) (hs.ev h2) h4 hv;exact(Q9.opOK h hb hd (P:=P) (o:=o) (ce:=ce) ⟨u,r,.inl (by simp[execOp,hop,h5]),h6,h7⟩).opWp
   ·cases hc
 | index t x i=>
  rw[hop] at hc;simp only[cOp] at hc;obtain⟨x',h1,hc⟩:=Za hc;obtain⟨i',h2,hc⟩:=Za hc;exact((Znt hop hs h1 h2 hc hv).opOK h hb hd).opWp
 | extract x i=>
  rw[hop] at hc;simp only[cOp] at hc;obtain⟨x',h1,hc⟩:=Za hc;cases hc;exact((ZqN hop hs h1 hv).opOK h hb hd).opWp
 | call cl=>
  obtain⟨callee,args,af⟩:=cl;cases callee with
  | value fo=>
   rw[hop] at hc;simp only[cOp] at hc;obtain⟨f',h1,hc⟩:=Za hc;obtain⟨ys,h2,hc⟩:=Za hc;cases hc;exact ZrE hC h hop h1 h2 hb hd ag hv
  | builtin bi=>
   rw[hop] at hc;simp only[cOp] at hc;have ad:∀ {r:AV} {u:Value},(∀ cs,(builtin bi af o.type cs (args.map a.eval)).run P w=.ok (.value u) w)→Rep Γ w I r u→ce=ceV r→Zls P nt F A I Γ U sl hp a w o base ce:=by
    intro r u h1 h2 h3;exact(Q9.opOK h hb hd (P:=P) (o:=o) (ce:=ce) ⟨u,r,.inl (by simp only[execOp,hop,resolve,invoke,Sem.run_bind,Sem.run_pure,Result.andThen_ok,h1]),h3,h2⟩).opWp
   unfold US at hc;split at hc
   ·rename_i x t aa ae;have e1:args = #[x]:=by apply Array.ext';simpa using aa
    have e2:af = #[t]:=by apply Array.ext';simpa using ae
    subst e1;subst e2;obtain⟨x',h1,hc⟩:=Za hc;unfold cLen at hc;split at hc
    ·rename_i e he;cases hc;simp only[vop] at hv;obtain⟨n,h2,hv⟩:=Za hv;refine ad (u:=.int .i64 n) ?_ (UH _ _) (Z4 hv);have:=Zr3 (P:=P) (ty:=o.type) he hh (hs.ev h1) h2;simp[builtin,this]
    ·split at hc
     ·rename_i ah;cases hc;simp only[vop] at hv;obtain⟨n,h2,hv⟩:=Za hv;refine ad (u:=.int .i64 n) ?_ (UH _ _) (Z4 hv);have:=ZqJ (P:=P) (w:=w) (ty:=o.type) ah (hs.ev h1) h2;simp[builtin,this]
     ·cases hc
   ·rename_i s x t u aa ae;have e1:args = #[s,x]:=by apply Array.ext';simpa using aa
    have e2:af = #[t,u]:=by apply Array.ext';simpa using ae
    subst e1;subst e2;obtain⟨e,h1,hc⟩:=Za hc;obtain⟨str,h2,hc⟩:=Za hc;obtain⟨s',h3,hc⟩:=Za hc;obtain⟨x',h4,hc⟩:=Za hc;split at hc
    ·rename_i ai;cases hc;exact(ZnU h hop h1 h2 ai h3 h4 hb hd hv).opWp
    ·cases hc
   ·rename_i x y aa;have e1:args = #[x,y]:=by apply Array.ext';simpa using aa
    subst e1;obtain⟨x',h1,hc⟩:=Za hc;obtain⟨y',h2,hc⟩:=Za hc;cases hc;obtain⟨z,r,h3,h4,h5⟩:=(Zhi (P:=P) (hs.ev h1) (hs.ev h2) af o.type).1 hv;exact ad (u:=z) (by simp[builtin,h3]) h5 h4
   ·rename_i x y aa;have e1:args = #[x,y]:=by apply Array.ext';simpa using aa
    subst e1;obtain⟨x',h1,hc⟩:=Za hc;obtain⟨y',h2,hc⟩:=Za hc;cases hc;obtain⟨z,r,h3,h4,h5⟩:=(Zhi (P:=P) (hs.ev h1) (hs.ev h2) af o.type).2 hv;exact ad (u:=z) (by simp[builtin,h3]) h5 h4
   ·rename_i x t aa ae;have e1:args = #[x]:=by apply Array.ext';simpa using aa
    have e2:af = #[t]:=by apply Array.ext';simpa using ae
    subst e1;subst e2;obtain⟨e,h1,hc⟩:=Za hc;obtain⟨x',h2,hc⟩:=Za hc;obtain⟨z,h3,hc⟩:=Za hc;obtain⟨d,h4,hc⟩:=Za hc;split at hc
    ·rename_i ai;cases hc;exact(Zq5 h hop h1 h2 h3 h4 ai hb hd hv).opWp
    ·cases hc
   ·cases hc
  | invoke r m=>rw[hop] at hc;simp only[cOp] at hc;cases hc
 | _=>rw[hop] at hc;simp only[cOp] at hc;cases hc
theorem ZmY {C:Orc} {M:Zg} (hC:Qh P C) (h:Sim nt F A I Γ U sl hp a w) {o:Oper} {c:COp} (hc:Yw (cOp P o.type o.op)=c) {base:Nat} (hb:Qx U base) (hd:Qm nt o.dst=true) {ce:Zb}
  (aa:Qr base (base+64) ce.eff.adds=true) (hv:vop C M sl hp base c=some ce):Zls P nt F A I Γ U sl hp a w o base ce:=by
 cases hq:cOp P o.type o.op with
 | none=>rw[hq] at hc;simp only[Yw] at hc;subst hc;simp only[vop] at hv;cases hv
 | some c'=>rw[hq] at hc;simp only[Yw] at hc;subst hc;exact ZrF hC h hq hb hd aa hv
def isBA:COp→Bool
 | .buildSl _ _=>true
 | .append _ _ _ _ _ _=>true
 | .assign _ _=>true
 | .make _ _ _ _ _=>true
 | _=>false
def NB (x:Option COp):Prop:=∀ c,isBA c=true→x≠some c
theorem NB.bnd {α:Type} {y:Option α} {f:α→Option COp} (h:∀ a,NB (f a)):NB (bnd y f):=by
 intro c hc e;obtain⟨a,_,e⟩:=Za e;exact h a c hc e
theorem NB.ite {c:Prop} [Decidable c] {x y:Option COp} (hx:NB x) (hy:NB y):NB (if c then x else y):=by
 split<;>assumption
theorem NB.none:NB none:=fun _ _ e=>by cases e
theorem NB.some {c:COp} (h:isBA c=false):NB (some c):=fun c' hc e=>by cases e;rw[h] at hc;cases hc
def YE:Op→Bool
 | .buildSlice _ _ _=>true
 | .call { callee:=.builtin .append,args:=_,argTypes:=_ }=>true
 | .assign _=>true
 | .makeSlice _ _ _=>true
 | _=>false
theorem Zc7 {ty:TypeId} {op:Op} (h:YE op=false):NB (cOp P ty op):=by
 unfold cOp;split<;>try (simp[YE] at h;done)
 all_goals (try unfold Zg7);(try unfold ZkK);(try unfold Zox);(try unfold Znl);(try unfold US)
 all_goals repeat' first | exact NB.none | exact NB.some rfl | refine NB.bnd fun _=>?_ | refine NB.ite ?_ ?_ | split
 all_goals first
  | (unfold cLen;split<;>repeat' first | exact NB.none | exact NB.some rfl | refine NB.ite ?_ ?_)
  | (unfold Znk;split<;>(try unfold Zl7)<;>(try split)<;>exact NB.some rfl)
  | exact absurd h (by simp[YE])
  | skip
theorem ZrG {C:Orc} {M:Zg} (hC:Qh P C) (h:Sim nt F A I Γ U sl hp a w) {o:Oper} {c:COp} (hc:Yw (cOp P o.type o.op)=ZaG c) {base:Nat} (hb:Qx U base) (hd:Qm nt o.dst=true) {ce:Zb}
  (al:Qr base (base+64) ce.eff.adds=true) (hv:vop C M sl hp base c=some ce):Zls P nt F A I Γ U sl hp a w o base ce:=by
 by_cases ah:∃ s b f x y,c=.appT s b f x y
 ·obtain⟨s,b,f,x,y,rfl⟩:=ah;simp only[ZaG] at hc;simp only[vop] at hv;cases hq:cOp P o.type o.op with
  | none=>rw[hq] at hc;simp[Yw] at hc
  | some c' =>
   rw[hq] at hc;simp only[Yw] at hc;subst hc;cases hop:YE o.op with
   | false=>exact(Zc7 hop _ rfl hq).elim
   | true=>
    unfold YE at hop;split at hop
    ·rename_i aa;rw[aa] at hq;simp only[cOp] at hq;obtain⟨_,_,hq⟩:=Za hq;obtain⟨_,_,hq⟩:=Za hq;split at hq<;>cases hq
    ·rename_i as ae aa;rw[aa] at hq;simp only[cOp] at hq;unfold US at hq;split at hq
     ·rename_i hb _ _;cases hb
     ·rename_i s' x' t u _ ab af;have e1:as = #[s',x']:=by apply Array.ext';simpa using ab
      have e2:ae = #[t,u]:=by apply Array.ext';simpa using af
      subst e1;subst e2;obtain⟨e,h1,hq⟩:=Za hq;obtain⟨str,h2,hq⟩:=Za hq;obtain⟨s2,h3,hq⟩:=Za hq;obtain⟨x2,h4,hq⟩:=Za hq;split at hq
      ·rename_i ag;cases hq;exact(ZoQ h aa h1 h2 ag h3 h4 hb hd hv).opWp
      ·cases hq
     ·rename_i hb _;cases hb
     ·rename_i hb _;cases hb
     ·rename_i hb _ _;cases hb
     ·cases hq
    ·rename_i aa;rw[aa] at hq;simp only[cOp] at hq;obtain⟨_,_,hq⟩:=Za hq;cases hq
    ·rename_i aa;rw[aa] at hq;simp only[cOp] at hq;obtain⟨_,_,hq⟩:=Za hq;obtain⟨_,_,hq⟩:=Za hq;obtain⟨_,_,hq⟩:=Za hq;obtain⟨_,_,hq⟩:=Za hq;obtain⟨_,_,hq⟩:=Za hq;split at hq<;>cases hq
    ·cases hop
 by_cases ai:∃ s n y,c=.asgT s n y
 ·obtain⟨s,n,y,rfl⟩:=ai;simp only[ZaG] at hc;simp only[vop] at hv;cases hq:cOp P o.type o.op with
  | none=>rw[hq] at hc;simp[Yw] at hc
  | some c' =>
   rw[hq] at hc;simp only[Yw] at hc;subst hc;cases hop:YE o.op with
   | false=>exact(Zc7 hop _ rfl hq).elim
   | true=>
    unfold YE at hop;split at hop
    ·rename_i aa;rw[aa] at hq;simp only[cOp] at hq;obtain⟨_,_,hq⟩:=Za hq;obtain⟨_,_,hq⟩:=Za hq;split at hq<;>cases hq
    ·rename_i as ae aa;rw[aa] at hq;simp only[cOp] at hq;unfold US at hq;split at hq
     ·rename_i hb _ _;cases hb
     ·obtain⟨_,_,hq⟩:=Za hq;obtain⟨_,_,hq⟩:=Za hq;obtain⟨_,_,hq⟩:=Za hq;obtain⟨_,_,hq⟩:=Za hq;split at hq<;>cases hq
     ·rename_i hb _;cases hb
     ·rename_i hb _;cases hb
     ·rename_i hb _ _;cases hb
     ·cases hq
    ·rename_i aa;rw[aa] at hq;simp only[cOp] at hq;obtain⟨z,h1,hq⟩:=Za hq;simp only[Option.some.injEq,COp.assign.injEq] at hq;obtain⟨_,rfl⟩:=hq;exact(Zsg h aa h1 hb hd hv).opWp
    ·rename_i aa;rw[aa] at hq;simp only[cOp] at hq;obtain⟨_,_,hq⟩:=Za hq;obtain⟨_,_,hq⟩:=Za hq;obtain⟨_,_,hq⟩:=Za hq;obtain⟨_,_,hq⟩:=Za hq;obtain⟨_,_,hq⟩:=Za hq;split at hq<;>cases hq
    ·cases hop
 by_cases aj:∃ s n ys,c=.buildT s n ys
 ·obtain⟨s,n,ys,rfl⟩:=aj;simp only[ZaG] at hc;simp only[vop] at hv;cases hq:cOp P o.type o.op with
  | none=>rw[hq] at hc;simp[Yw] at hc
  | some c' =>
   rw[hq] at hc;simp only[Yw] at hc;subst hc;cases hop:YE o.op with
   | false=>exact(Zc7 hop _ rfl hq).elim
   | true=>
    unfold YE at hop;split at hop
    ·rename_i aa;rw[aa] at hq;simp only[cOp] at hq;obtain⟨e,h1,hq⟩:=Za hq;obtain⟨xs,h2,hq⟩:=Za hq;split at hq
     ·rename_i ad;obtain⟨c1,c2,c3⟩:=ad;cases hq;exact(Zp0 h aa h1 h2 c1 c2 c3 hb hd hv).opWp
     ·cases hq
    ·rename_i as ae aa;rw[aa] at hq;simp only[cOp] at hq;unfold US at hq;split at hq
     ·rename_i hb _ _;cases hb
     ·obtain⟨_,_,hq⟩:=Za hq;obtain⟨_,_,hq⟩:=Za hq;obtain⟨_,_,hq⟩:=Za hq;obtain⟨_,_,hq⟩:=Za hq;split at hq<;>cases hq
     ·rename_i hb _;cases hb
     ·rename_i hb _;cases hb
     ·rename_i hb _ _;cases hb
     ·cases hq
    ·rename_i aa;rw[aa] at hq;simp only[cOp] at hq;obtain⟨_,_,hq⟩:=Za hq;cases hq
    ·rename_i aa;rw[aa] at hq;simp only[cOp] at hq;obtain⟨_,_,hq⟩:=Za hq;obtain⟨_,_,hq⟩:=Za hq;obtain⟨_,_,hq⟩:=Za hq;obtain⟨_,_,hq⟩:=Za hq;obtain⟨_,_,hq⟩:=Za hq;split at hq<;>cases hq
    ·cases hop
 by_cases ak:∃ s b n z l k,c=.makeT s b n z l k
 ·obtain⟨s,b,n,z,l,k,rfl⟩:=ak;simp only[ZaG] at hc;simp only[vop] at hv;cases hq:cOp P o.type o.op with
  | none=>rw[hq] at hc;simp[Yw] at hc
  | some c' =>
   rw[hq] at hc;simp only[Yw] at hc;subst hc;cases hop:YE o.op with
   | false=>exact(Zc7 hop _ rfl hq).elim
   | true=>
    unfold YE at hop;split at hop
    ·rename_i aa;rw[aa] at hq;simp only[cOp] at hq;obtain⟨_,_,hq⟩:=Za hq;obtain⟨_,_,hq⟩:=Za hq;split at hq<;>cases hq
    ·rename_i as ae aa;rw[aa] at hq;simp only[cOp] at hq;unfold US at hq;split at hq
     ·rename_i hb _ _;cases hb
     ·obtain⟨_,_,hq⟩:=Za hq;obtain⟨_,_,hq⟩:=Za hq;obtain⟨_,_,hq⟩:=Za hq;obtain⟨_,_,hq⟩:=Za hq;split at hq<;>cases hq
     ·rename_i hb _;cases hb
     ·rename_i hb _;cases hb
     ·rename_i hb _ _;cases hb
     ·cases hq
    ·rename_i aa;rw[aa] at hq;simp only[cOp] at hq;obtain⟨_,_,hq⟩:=Za hq;cases hq
    ·rename_i aa;rw[aa] at hq;simp only[cOp] at hq;obtain⟨e,h1,hq⟩:=Za hq;obtain⟨l',h2,hq⟩:=Za hq;obtain⟨c',h3,hq⟩:=Za hq;obtain⟨z',h4,hq⟩:=Za hq;obtain⟨d',h5,hq⟩:=Za hq;split at hq
     ·rename_i ag;cases hq;obtain⟨x,h6,hv⟩:=Za hv;obtain⟨y,h7,hv⟩:=Za hv;exact(Zq7 h aa h1 h2 h3 h4 h5 ag hb hd h6 h7 hv).opWp
     ·cases hq
    ·cases hop
 have:ZaG c=c:=by cases c<;>first | rfl | exact absurd ⟨_,_,_,rfl⟩ aj | exact absurd ⟨_,_,_,_,_,rfl⟩ ah | exact absurd ⟨_,_,_,rfl⟩ ai | exact absurd ⟨_,_,_,_,_,_,rfl⟩ ak
 rw[this] at hc;exact ZmY hC h hc hb hd al hv
end
end Go.Abs
