/- Own text. -/
import Derived.Test.YtcefneehgbiebaaGreatDoorAbsSound3
set_option linter.unusedVariables false
set_option linter.unusedSimpArgs false
namespace Go.Abs
open Go
section
variable {P:Program} {nt:Nat} {F A:Nat→Prop} {Γ0:Gh}
theorem ZuY:∀ (l:List AV) (k t:Nat),gs (V1 k l) t=if k≤t then ZdB l[t-k]? else .junk
 | [],k,t=>by simp[V1,gs,lkp,ZdB]
 | v :: r,k,t=>by
  have ih:=ZuY r (k+1) t;have aa:gs (V1 k (v :: r)) t=if k=t then ZdB (ZxX (some v) (lkp (V1 (k+1) r) t)) else gs (V1 (k+1) r) t:=by
   simp only[V1,gs,Zje];by_cases h:k=t
   ·simp[h]
   ·simp only[h,Ko];cases lkp (V1 (k+1) r) t<;>rfl
  rw[aa];by_cases h1:k=t
  ·subst h1;have h2:lkp (V1 (k+1) r) k=none:=by
    have:∀ (l:List AV) (j:Nat),k<j→lkp (V1 j l) k=none:=by
     intro l
     induction l with
     | nil=>intro j _;rfl
     | cons a l ihl=>
      intro j hj;simp only[V1,Zje,ihl (j+1) (by omega)];rw[Kd (by omega)];rfl
    exact this r (k+1) (by omega)
   rw[h2];simp[ZxX,ZdB]
  ·rw[Kd h1,ih];by_cases h2:k≤t
   ·rw[Ki (by omega),Ki h2];have:t-k=(t-(k+1))+1:=by omega
    rw[this];simp
   ·rw[Kd (by omega),Kd h2]
theorem Zmn {v:Value} {u:Value} {t:TypeId} {w:World} (h:(Instr.loadAt t v).run P w=.ok u w):(do loadVar t (← asAddr v):Sem Value).run P w=.ok u w:=by
 cases v with
 | pointer a=>
  cases a with
  | none=>simp[Instr.loadAt,Instr.sureAddr] at h
  | some a=>simpa [Instr.loadAt,Instr.sureAddr,asAddr] using h
 | _=>simp[Instr.loadAt,Instr.sureAddr] at h
theorem ZgN {I:Nat→Prop} {Γ:Gh} {st:St} {a:Act} {w:World} (h:Sim nt F A I Γ (Zas st.nx) st.sl st.hp a w):∀ {aa:List ResultVar} {rs:List Zqi} {vs:List AV},QF (cRes P) aa=some rs→QF (Zmm st) rs=some vs →
  ∃ us:List Value,(aa.mapM (m:=Sem) fun
   | .tmp t=>pure (a.tmps.getD t undef)
   | .cell c t=>do loadVar t (← asAddr (a.tmps.getD c undef))).run P w=.ok us w∧Zt (Rep Γ w I) vs us
 | [],rs,vs,hr,hv=>by
  simp only[QF] at hr;cases hr;simp only[QF] at hv;cases hv;exact⟨[],by simp,trivial⟩
 | rv :: aa,rs,vs,hr,hv=>by
  simp only[QF] at hr;obtain⟨r,h1,hr⟩:=Za hr;obtain⟨ad,h2,hr⟩:=Za hr;cases hr;simp only[QF] at hv;obtain⟨v,h3,hv⟩:=Za hv;obtain⟨ae,h4,hv⟩:=Za hv;cases hv;obtain⟨us,h5,h6⟩:=ZgN h h2 h4;cases rv with
  | tmp t=>
   simp only[cRes] at h1;cases h1;simp only[Zmm] at h3;cases h3;refine⟨a.tmps.getD t undef :: us,?_,h.slots t,h6⟩;simp only[List.mapM_cons,Sem.run_bind,Sem.run_pure,Result.andThen_ok,h5]
  | cell c t=>
   simp only[cRes] at h1;obtain⟨g,h7,h1⟩:=Za h1;cases h1;simp only[Zmm] at h3;obtain⟨u,h8,h9⟩:=ZuD (P:=P) h7 h.hpOK (h.slots c) h3;have ab:=Zmn h8;refine⟨u :: us,?_,h9,h6⟩;simp only[List.mapM_cons];rw[Sem.run_bind,ab];simp only[Result.andThen_ok,Sem.run_bind,h5,Sem.run_pure]
theorem ZrW {Γ:Gh} {w:World} {I:Nat→Prop}:∀ {vs:List AV} {us:List Value},ZiL vs=false→Zt (Rep Γ w I) vs us→Zt (JI Γ w I) vs us
 | [],[],_,_=>trivial
 | [],_ :: _,_,h=>h.elim
 | _ :: _,[],_,h=>h.elim
 | v :: vs,u :: us,hn,h=>by
  simp only[ZiL,LT] at hn;refine⟨?_,ZrW hn.2 h.2⟩;cases v<;>first | exact h.1 | (simp[ZxC] at hn)
theorem ZxE {Γ:Gh} {w:World} {I:Nat→Prop} {vs:List AV} {us:List Value} (h:Zt (Rep Γ w I) vs us):Rep Γ w I (ZbU vs) (if h:us.toArray.size=1 then us.toArray[0] else .tuple us.toArray):=by
 match vs,us,h with
 | [],[],h=>exact⟨#[],rfl,trivial⟩
 | [v],[u],h=>exact h.1
 | v :: v' :: vs,u :: u' :: us,h=>
  simp only[ZbU];cases hn:ZiL (v :: v' :: vs)
  ·simp only[Ka,Ko];rw[dif_neg (by simp)];exact⟨_,rfl,by simpa using ZrW hn h⟩
  ·exact trivial
theorem ZwI {C:Orc} {M:Zn} (hC:QK P C) (hB:Wn C) {f:FuncId} {fn:Func} {cf:Zs} (hf:P.funcs[f]?=some fn) (ag:(fn.name == "runtime.NumGoroutine")=false) (ae:cFun P fn=some (ZkS cf)) (hD:W2 P C M fn.ntmps)
  {N:Nat} {as:List AV} {h:List Zl} {res:AV} {hs:List Zl} (hv:ZjI C M N cf as h=some (res,hs)):ZnA P f as h res hs:=by
 unfold cFun at ae;obtain⟨c,hb,ae⟩:=Za ae;obtain⟨cc,am,ae⟩:=Za ae;obtain⟨rs,an,ae⟩:=Za ae;obtain⟨cnt,ao,aj⟩:=cf;simp only[ZkS,Option.some.injEq,Zs.mk.injEq] at ae;obtain⟨rfl,rfl,rfl⟩:=ae;refine⟨⟨fn,hf,ag,by rw[hb];rfl⟩,fun F A I Γ args w aa=>?_⟩;unfold ZjI at hv;split at hv
 ·rename_i ap;simp only at ap hv;cases hr:ZE C M N aj { sl:=V1 0 as,hp:=Vu 0 h,nx:=h.length,m:=h.length } with
  | none=>rw[hr] at hv;simp[ZbB] at hv
  | some q=>
   obtain⟨ex,ab⟩:=q;rw[hr] at hv;have aq:as.length=args.length:=aa.args.length;refine calls_of_wp hf hb ?_;have hS:Sim fn.ntmps F A I Γ (Zas h.length) (V1 0 as) (Vu 0 h) { tmps:=args.toArray++Array.replicate (fn.ntmps-args.toArray.size) undef,defers:=[] } w:=by
    refine { nt:=by simp;omega,dfr:=rfl,slots:=fun t=>?_,objs:=aa.objs,inj:=aa.inj,bound:=aa.bound,fresh:=aa.fresh,own:=aa.own,names:=fun id ah=>aa.names id (by simpa [Zas] using ah),glob:=aa.glob };rw[ZuY];simp only[LJ,Km,LY];cases ht:as[t]? with
    | none=>exact trivial
    | some x=>
     obtain⟨v,h1,h2⟩:=aa.args.get t x ht;have h3:(args.toArray++Array.replicate (fn.ntmps-args.toArray.size) undef).getD t undef=v:=by
      have ak:=(Kb.1 h1).1;have h4:=Kq ak;rw[h1] at h4;simp[Array.getElem?_append,ak];exact(Option.some.inj h4).symm
     rw[h3];exact h2
   have hc:Zfq Γ Γ (Vu 0 h):=by
    intro k b hk;refine⟨hk,?_⟩;have ar:k<h.length:=by
     rcases KT k h.length with h1 | h1
     ·exact h1
     ·rw[aa.names k h1] at hk;cases hk
    have hl:lkp (Vu 0 h) k=some h[k]:=by rw[Y7];simp[ar]
    have ho:=aa.objs k _ hl;cases hq:h[k] with
    | box cs=>exact⟨cs,by rw[hl,hq]⟩
    | row sz xs e z=>
     rw[hq] at ho;obtain⟨ad,n,c,h1,_⟩:=ho;rw[hk] at h1;cases h1
    | deep sz ns xs lk=>
     rw[hq] at ho;obtain⟨ad,n,c,h1,_⟩:=ho;rw[hk] at h1;cases h1
   refine Zfr (F:=F) (A:=A) (Γ0:=Γ) hC hB hD aj c am hr hS hc aa.names fun a' w' hp=>?_;have al:(bnd (QF (Zmm ab) rs) fun vs=>some (Vb h.length ab.hp (ZbU vs)))=some (res,hs)→a'.defers=[]∧∃ v,(results fn a'.tmps).run P w'=.ok v w'∧∃ v2 I' Γ',Ending.returned v=.returned v2∧ZxY F A I Γ w hs res I' Γ' v2 w':=by
    intro af;obtain⟨I',Γ',b1,b2,b3,b4,b5⟩:=hp;obtain⟨vs,au,af⟩:=Za af;obtain⟨us,av,ai⟩:=ZgN b5 an au;refine⟨b5.dfr,(if h:us.toArray.size=1 then us.toArray[0] else .tuple us.toArray),?_,_,I',ZbD ab.hp (QL ab.hp (Q9 ab.hp) (ZB (ZbU vs)++Wv ab.hp (List.range h.length)) (List.range h.length)) Γ',rfl,?_⟩
    ·unfold results;rw[Sem.run_bind,Array.mapM_eq_mapM_toList,Sem.run_map];exact congrArg (fun r:Result (List Value)=>(r.andThen fun a w'=>Result.ok a.toArray w').andThen fun a w'=>Sem.run P (pure (if h:a.size=1 then a[0] else Value.tuple a)) w') av
    ·have aw:=(Zbf ab.hp (Q9 ab.hp) (ZB (ZbU vs)++Wv ab.hp (List.range h.length)) (List.range h.length) List.nodup_range).1;obtain⟨t1,t2,t3⟩:=ZwH b5 aw;simp only[Vb,Option.some.injEq,Prod.mk.injEq] at af;obtain⟨rfl,rfl⟩:=af;have ax:=ZrV (n:=Q9 ab.hp) (todo:=ZB (ZbU vs)++Wv ab.hp (List.range h.length)) (m:=h.length) b1 aa.names;exact { boxes:=fun id b hg=>(ax id b hg).1,keeps:=b2,sub:=b3,fr:=b4,res:=Zoy _ (ZxE ai),objs:=t1,inj:=t2,bound:=b5.bound,names:=fun id ah=>t3 id (by simpa [Zdh] using ah) }
   cases ex with
   | normal=>exact al (by simpa [ZbB] using hv)
   | ret=>exact al (by simpa [ZbB] using hv)
   | exit id=>simp[ZbB] at hv
 ·cases hv
end
end Go.Abs
set_option linter.unusedVariables false
set_option linter.unusedSimpArgs false
namespace Go.Abs
open Go
theorem Zoz {C:Orc} {M:Zn} (hB:Wn C) {nx:Nat}:∀ (os:List CO) (i:Nat) {sl:Sl} {hp:Hp} {r:Sl×Hp},ZeD C M nx i os sl hp=some r→Xb hp r.2 nx
 | [],i,sl,hp,r,h=>by simp only[ZeD] at h;cases h;exact Xb.refl hp nx
 | o :: os,i,sl,hp,r,h=>by
  simp only[ZeD] at h;obtain⟨b,_,h⟩:=Za h;split at h
  ·obtain⟨q,hq,h⟩:=Za h;obtain⟨ce,aa,ab,rfl⟩:=Q3 hq;have h1:=(Zfp hB aa).keeps ab o.dst sl;exact Xb.trans (fun id cs ad hl=>h1 id cs (by omega) hl) (Zoz hB os (i+1) h)
  ·exact Zoz hB os (i+1) h
theorem Zbi {C:Orc} {M:Zn} {nx i:Nat} {t:Bool} {o:COp} {sl:Sl} {hp:Hp} {ce:Zd} (h:WA C M nx i t o sl hp=some ce):vop C M sl hp (nx+64*i) o=some ce:=by
 unfold WA at h;split at h
 ·exact h
 ·unfold ZcJ at h;obtain⟨c,h1,h⟩:=Za h;unfold Zfm at h;split at h
  ·cases h;exact h1
  ·cases h
theorem ZkW {C:Orc} {M:Zn} (hB:Wn C) {nx:Nat}:∀ (os:List CO) (i:Nat) (t:Bool) {sl:Sl} {hp:Hp} {r:Sl×Hp},UB C M nx i t os sl hp=some r→Xb hp r.2 nx
 | [],i,t,sl,hp,r,h=>by simp only[UB] at h;cases h;exact Xb.refl hp nx
 | o :: os,i,t,sl,hp,r,h=>by
  simp only[UB] at h;obtain⟨b,_,h⟩:=Za h;split at h
  ·obtain⟨q,hq,h⟩:=Za h;obtain⟨ce,aa,ab,rfl⟩:=Q3 hq;have h1:=(Zfp hB (Zbi aa)).keeps ab o.dst sl;exact Xb.trans (fun id cs ad hl=>h1 id cs (by omega) hl) (ZkW hB os (i+1) _ h)
  ·exact ZkW hB os (i+1) _ h
theorem ZyN (K:List Nat) (st:St):Xb st.hp (Ww K st).hp st.m∧st.m≤(Ww K st).nx:=by
 refine⟨fun k cs hk hl=>?_,?_⟩
 ·show ∃ cs',lkp (Vu 0 _) k=_;rw[Y7];simp only[LJ,Km,LY,KS,Zcm,ZgM hk,KJ,hl,Zjv];exact⟨_,rfl⟩
 ·show st.m≤(QL _ _ _ _).length;obtain⟨t,ht⟩:=JN st.hp (Q9 st.hp) (Zou (only K st.sl)++Wv st.hp (List.range st.m)) (List.range st.m);rw[ht];simp
theorem ZzZ {C:Orc} {M:Zn} (hB:Wn C) {N:Nat}:∀ (c:ZX) (st aa : St) (e:Ex),ZE C M N c st=some (e,aa)→st.m≤st.nx→Xb st.hp aa.hp st.m∧aa.m=st.m∧st.m≤aa.nx:=by
 intro c
 induction c with
 | skip=>intro st aa e h hm;simp only[ZE] at h;cases h;exact⟨Xb.refl _ _,rfl,hm⟩
 | region n d ops=>
  intro st aa e h hm;cases d
  ·simp only[ZE,ZjH] at h;obtain⟨r,h1,h⟩:=Za h;cases h;have h2:=Zoz hB _ _ h1;exact⟨fun id cs ab hl=>h2 id cs (by omega) hl,rfl,by show st.m≤st.nx+64*n;omega⟩
  ·simp only[ZE,ZjH] at h;obtain⟨r,h1,h⟩:=Za h;cases h;unfold Zov at h1;obtain⟨r',h3,h1⟩:=Za h1;split at h1
   ·cases h1;have h2:=ZkW hB _ _ _ h3;exact⟨fun id cs ab hl=>h2 id cs (by omega) hl,rfl,by show st.m≤st.nx+64*n;omega⟩
   ·cases h1
 | seq x y ihx ihy=>
  intro st aa e h hm;simp only[ZE] at h;cases hx:ZE C M N x st with
  | none=>rw[hx] at h;cases h
  | some q=>
   obtain⟨e1,st1⟩:=q;rw[hx] at h;obtain⟨h1,h2,h3⟩:=ihx _ _ _ hx hm;cases e1<;>simp only[andThen] at h
   ·obtain⟨h4,h5,h6⟩:=ihy _ _ _ h (by omega);rw[h2] at h4 h5 h6;exact⟨h1.trans h4,h5,h6⟩
   ·cases h;exact⟨h1,h2,h3⟩
   ·cases h;exact⟨h1,h2,h3⟩
 | cond c x y ihx ihy=>
  intro st aa e h hm;simp only[ZE] at h;unfold ZgJ at h;split at h
  ·split at h
   ·exact ihx _ _ _ h hm
   ·exact ihy _ _ _ h hm
  ·cases h
 | block id c ih=>
  intro st aa e h hm;simp only[ZE] at h;cases hx:ZE C M N c st with
  | none=>rw[hx] at h;cases h
  | some q=>
   obtain⟨e1,st1⟩:=q;rw[hx] at h;have h1:=ih _ _ _ hx hm;unfold Zf4 at h;split at h
   ·rename_i j af hq;cases hq;split at h<;>(cases h;exact h1)
   ·cases h;exact h1
 | loop c ih=>
  intro st aa e h hm;simp only[ZE] at h;have ad:∀ (K:List Nat) (n:Nat) (st:St),UC (ZE C M N c) K n st=some (e,aa)→st.m≤st.nx→Xb st.hp aa.hp st.m∧aa.m=st.m∧st.m≤aa.nx:=by
   intro K n
   induction n with
   | zero=>intro st h;simp only[UC] at h;cases h
   | succ n ihn=>
    intro st h hm;simp only[UC] at h;obtain⟨c1,c2⟩:=ZyN K st;cases hx:ZE C M N c (Ww K st) with
    | none=>rw[hx] at h;cases h
    | some q=>
     obtain⟨e1,st1⟩:=q;rw[hx] at h;obtain⟨h1,h2,h3⟩:=ih _ _ _ hx c2;have ae:(Ww K st).m=st.m:=rfl;rw[ae] at h1 h2 h3;cases e1 with
     | normal=>
      simp only at h;obtain⟨h4,h5,h6⟩:=ihn _ h (by omega);rw[h2] at h4 h5 h6;exact⟨(c1.trans h1).trans h4,h5,h6⟩
     | exit id=>simp only at h;cases h;exact⟨c1.trans h1,h2,h3⟩
     | ret=>simp only at h;cases h;exact⟨c1.trans h1,h2,h3⟩
  exact ad _ N st h hm
 | exit id=>intro st aa e h hm;simp only[ZE] at h;cases h;exact⟨Xb.refl _ _,rfl,hm⟩
 | ret=>intro st aa e h hm;simp only[ZE] at h;cases h;exact⟨Xb.refl _ _,rfl,hm⟩
 | stuck=>intro st aa e h hm;simp only[ZE] at h;cases h
 | link id i j c ih=>
  intro st aa e h hm;simp only[ZE] at h;obtain⟨st1,h1,h⟩:=Za h;unfold ZdM at h1;obtain⟨n,_,h1⟩:=Za h1;split at h1
  ·obtain⟨o,ho,h1⟩:=Za h1;cases h1;obtain⟨h2,h3,h4⟩:=ih _ _ _ h (by show st.m≤st.nx+64;omega);refine⟨Xb.trans (fun k cs hk hl=>⟨cs,?_⟩) h2,h3,h4⟩;show lkp (ins st.hp id o) k=_;rw[Qh,Kd (fun e=>by subst e;rw[hl] at ho;cases ho)];exact hl
  ·cases h1
 | melt c ih=>
  intro st aa e h hm;simp only[ZE] at h;obtain⟨h2,h3,h4⟩:=ih _ _ _ h hm;refine⟨Xb.trans (fun k cs hk hl=>⟨cs,?_⟩) h2,h3,h4⟩;show lkp (ZhY ZcA st.hp) k=_;rw[ZcL,hl];rfl
 | keep K c ih=>
  intro st aa e h hm;simp only[ZE] at h;cases hx:ZE C M N c st with
  | none=>rw[hx] at h;cases h
  | some q=>
   obtain⟨e1,st1⟩:=q;rw[hx] at h;simp only[Zl2] at h;cases h;have h1:=ih _ _ _ hx hm;exact⟨h1.1,h1.2.1,h1.2.2⟩
theorem ZyO {C:Orc} {M:Zn} (hB:Wn C) {N:Nat} {cf:Zs} {as:List AV} {h:List Zl} {r:AV} {hs:List Zl} (hv:ZjI C M N cf as h=some (r,hs)) (k:Nat) (cs:List AV) (hk:h[k]?=some (Zl.box cs)):∃ cs',hs[k]?=some (Zl.box cs'):=by
 unfold ZjI at hv;split at hv
 ·cases hr:ZE C M N cf.body { sl:=V1 0 as,hp:=Vu 0 h,nx:=h.length,m:=h.length } with
  | none=>rw[hr] at hv;simp[ZbB] at hv
  | some q=>
   obtain⟨ex,ab⟩:=q;rw[hr] at hv;obtain⟨h1,h2,h3⟩:=ZzZ hB _ _ _ _ hr (Kr _);have ad:k<h.length:=(Kb.1 hk).1;obtain⟨cs',h4⟩:=h1 k cs ad (by show lkp (Vu 0 h) k=_;rw[Y7];simpa using hk);have ae:(bnd (QF (Zmm ab) cf.res) fun vs=>some (Vb h.length ab.hp (ZbU vs)))=some (r,hs)→∃ cs',hs[k]?=some (Zl.box cs'):=by
    intro aa;obtain⟨vs,_,aa⟩:=Za aa;simp only[Vb,Option.some.injEq,Prod.mk.injEq] at aa;obtain⟨_,rfl⟩:=aa;rw[KS,Zcm,ZgM ad];simp only[KJ,h4,Zjv];exact⟨_,rfl⟩
   cases ex with
   | normal=>exact ae (by simpa [ZbB] using hv)
   | ret=>exact ae (by simpa [ZbB] using hv)
   | exit id=>simp[ZbB] at hv
 ·cases hv
structure Zfs (P:Program) (X:Fns) (M:Zn):Prop where
 text:∀ f cf,X f=some (.text cf)→∃ fn,P.funcs[f]?=some fn∧(fn.name == "runtime.NumGoroutine")=false∧cFun P fn=some (ZkS cf)
 prim:∀ f p,X f=some (.prim p)→∀ as h r hs,p as h=some (r,hs)→ZnA P f as h r hs∧∀ (k:Nat) (cs:List AV),h[k]?=some (Zl.box cs)→∃ cs',hs[k]?=some (Zl.box cs')
theorem ZiQ {P:Program} {X:Fns} {M:Zn} (hX:Zfs P X M):∀ n,Wn (Qi X M n)
 | 0=>fun f as h r hs hv=>by simp only[Qi] at hv;cases hv
 | n+1=>fun f as h r hs hv k cs hk=>by
  simp only[Qi] at hv;cases hf:X f with
  | none=>rw[hf] at hv;simp only[Zfn] at hv;cases hv
  | some g=>
   rw[hf] at hv;cases g with
   | text cf=>simp only[Zfn] at hv;exact ZyO (ZiQ hX n) hv k cs hk
   | prim p=>simp only[Zfn] at hv;exact(hX.prim f p hf as h r hs hv).2 k cs hk
theorem Zft {P:Program} {X:Fns} {M:Zn} (hX:Zfs P X M) (hD:∀ C nt,QK P C→Wn C→W2 P C M nt):∀ n,QK P (Qi X M n)
 | 0=>fun f as h r hs hv=>by simp only[Qi] at hv;cases hv
 | n+1=>fun f as h r hs hv=>by
  simp only[Qi] at hv;have hC:=Zft hX hD n;have hB:=ZiQ hX n;cases hf:X f with
  | none=>rw[hf] at hv;simp only[Zfn] at hv;cases hv
  | some g=>
   rw[hf] at hv;cases g with
   | text cf=>
    simp only[Zfn] at hv;obtain⟨fn,h1,h2,h3⟩:=hX.text f cf hf;exact ZwI hC hB h1 h2 h3 (hD _ _ hC hB) hv
   | prim p=>simp only[Zfn] at hv;exact(hX.prim f p hf as h r hs hv).1
theorem Zl3 {P:Program} {X:Fns} {M:Zn} (hX:Zfs P X M) (hD:∀ C nt,QK P C→Wn C→W2 P C M nt):QK P (Ze X M):=fun f as h r hs hv=>by
 obtain⟨n,hn⟩:=ZgK hv;exact Zft hX hD n f as h r hs hn
end Go.Abs
