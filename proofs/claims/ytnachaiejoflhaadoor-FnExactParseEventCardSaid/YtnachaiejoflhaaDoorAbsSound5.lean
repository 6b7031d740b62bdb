/- Own text. -/
import Derived.Test.YtnachaiejoflhaaDoorAbsSound3
set_option linter.unusedVariables false
set_option linter.unusedSimpArgs false
namespace Go.Abs
open Go
section
variable {P:Program} {nt:Nat} {F A:Nat→Prop} {Γ0:Gh}
theorem Zm4:∀ (l:List AV) (k t:Nat),gs (YH k l) t=if k≤t then JF l[t-k]? else .junk
 | [],k,t=>by simp[YH,gs,lkp,JF]
 | v :: r,k,t=>by
  have ih:=Zm4 r (k+1) t;have aa:gs (YH k (v :: r)) t=if k=t then JF (ZpB (some v) (lkp (YH (k+1) r) t)) else gs (YH (k+1) r) t:=by
   simp only[YH,gs,Zd1];by_cases h:k=t
   ·simp[h]
   ·simp only[h,Km];cases lkp (YH (k+1) r) t<;>rfl
  rw[aa];by_cases h1:k=t
  ·subst h1;have h2:lkp (YH (k+1) r) k=none:=by
    have:∀ (l:List AV) (j:Nat),k<j→lkp (YH j l) k=none:=by
     intro l
     induction l with
     | nil=>intro j _;rfl
     | cons a l ihl=>
      intro j hj;simp only[YH,Zd1,ihl (j+1) (by omega)];rw[Kf (by omega)];rfl
    exact this r (k+1) (by omega)
   rw[h2];simp[ZpB,JF]
  ·rw[Kf h1,ih];by_cases h2:k≤t
   ·rw[Ko (by omega),Ko h2];have:t-k=(t-(k+1))+1:=by omega
    rw[this];simp
   ·rw[Kf (by omega),Kf h2]
theorem ZgE {v:Value} {u:Value} {t:TypeId} {w:World} (h:(Instr.loadAt t v).run P w=.ok u w):(do loadVar t (← asAddr v):Sem Value).run P w=.ok u w:=by
 cases v with
 | pointer a=>
  cases a with
  | none=>simp[Instr.loadAt,Instr.sureAddr] at h
  | some a=>simpa [Instr.loadAt,Instr.sureAddr,asAddr] using h
 | _=>simp[Instr.loadAt,Instr.sureAddr] at h
theorem ZbZ {I:Nat→Prop} {Γ:Gh} {st:St} {a:Act} {w:World} (h:Sim nt F A I Γ (Ws st.nx) st.sl st.hp a w):∀ {aa:List ResultVar} {rs:List Zju} {vs:List AV},Qe (cRes P) aa=some rs→Qe (ZiB st) rs=some vs →
  ∃ us:List Value,(aa.mapM (m:=Sem) fun
   | .tmp t=>pure (a.tmps.getD t undef)
   | .cell c t=>do loadVar t (← asAddr (a.tmps.getD c undef))).run P w=.ok us w∧Zm (Rep Γ w I) vs us
 | [],rs,vs,hr,hv=>by
  simp only[Qe] at hr;cases hr;simp only[Qe] at hv;cases hv;exact⟨[],by simp,trivial⟩
 | rv :: aa,rs,vs,hr,hv=>by
  simp only[Qe] at hr;obtain⟨r,h1,hr⟩:=Za hr;obtain⟨ad,h2,hr⟩:=Za hr;cases hr;simp only[Qe] at hv;obtain⟨v,h3,hv⟩:=Za hv;obtain⟨ae,h4,hv⟩:=Za hv;cases hv;obtain⟨us,h5,h6⟩:=ZbZ h h2 h4;cases rv with
  | tmp t=>
   simp only[cRes] at h1;cases h1;simp only[ZiB] at h3;cases h3;refine⟨a.tmps.getD t undef :: us,?_,h.slots t,h6⟩;simp only[List.mapM_cons,Sem.run_bind,Sem.run_pure,Result.andThen_ok,h5]
  | cell c t=>
   simp only[cRes] at h1;obtain⟨g,h7,h1⟩:=Za h1;cases h1;simp only[ZiB] at h3;obtain⟨u,h8,h9⟩:=ZmF (P:=P) h7 h.hpOK (h.slots c) h3;have ab:=ZgE h8;refine⟨u :: us,?_,h9,h6⟩;simp only[List.mapM_cons];rw[Sem.run_bind,ab];simp only[Result.andThen_ok,Sem.run_bind,h5,Sem.run_pure]
theorem Zki {Γ:Gh} {w:World} {I:Nat→Prop}:∀ {vs:List AV} {us:List Value},ZdD vs=false→Zm (Rep Γ w I) vs us→Zm (Wl Γ w I) vs us
 | [],[],_,_=>trivial
 | [],_ :: _,_,h=>h.elim
 | _ :: _,[],_,h=>h.elim
 | v :: vs,u :: us,hn,h=>by
  simp only[ZdD,Bool.or_eq_false_iff] at hn;refine⟨?_,Zki hn.2 h.2⟩;cases v<;>first | exact h.1 | (simp[Zpb] at hn)
theorem Zpd {Γ:Gh} {w:World} {I:Nat→Prop} {vs:List AV} {us:List Value} (h:Zm (Rep Γ w I) vs us):Rep Γ w I (Jg vs) (if h:us.toArray.size=1 then us.toArray[0] else .tuple us.toArray):=by
 match vs,us,h with
 | [],[],h=>exact⟨#[],rfl,trivial⟩
 | [v],[u],h=>exact h.1
 | v :: v' :: vs,u :: u' :: us,h=>
  simp only[Jg];cases hn:ZdD (v :: v' :: vs)
  ·simp only[Ka,Km];rw[dif_neg (by simp)];exact⟨_,rfl,by simpa using Zki hn h⟩
  ·exact trivial
theorem Zoo {C:Orc} {M:Zh} (hC:Qf P C) {f:FuncId} {fn:Func} {cf:Qa} (hf:P.funcs[f]?=some fn) (ag:(fn.name == "runtime.NumGoroutine")=false) (ae:cFun P fn=some (Zfr cf)) (hD:Vd P C M fn.ntmps)
  {N:Nat} {as:List AV} {h:List Zf} {res:AV} {hs:List Zf} (hv:ZiC C M N cf as h=some (res,hs)):Zhy P f as h res hs:=by
 unfold cFun at ae;obtain⟨c,hb,ae⟩:=Za ae;obtain⟨cc,am,ae⟩:=Za ae;obtain⟨rs,an,ae⟩:=Za ae;obtain⟨cnt,ao,aj⟩:=cf;simp only[Zfr,Option.some.injEq,Qa.mk.injEq] at ae;obtain⟨rfl,rfl,rfl⟩:=ae;refine⟨⟨fn,hf,ag,by rw[hb];rfl⟩,fun F A I Γ args w aa=>?_⟩;unfold ZiC at hv;split at hv
 ·rename_i ap;simp only at ap hv;cases hr:Zu C M N aj { sl:=YH 0 as,hp:=YJ 0 h,nx:=h.length,m:=h.length } with
  | none=>rw[hr] at hv;simp[JQ] at hv
  | some q=>
   obtain⟨ex,ab⟩:=q;rw[hr] at hv;have aq:as.length=args.length:=aa.args.length;refine calls_of_wp hf hb ?_;have hS:Sim fn.ntmps F A I Γ (Ws h.length) (YH 0 as) (YJ 0 h) { tmps:=args.toArray++Array.replicate (fn.ntmps-args.toArray.size) undef,defers:=[] } w:=by
    refine { nt:=by simp;omega,dfr:=rfl,slots:=fun t=>?_,objs:=aa.objs,inj:=aa.inj,bound:=aa.bound,fresh:=aa.fresh,own:=aa.own,names:=fun id ah=>aa.names id (by simpa [Ws] using ah),glob:=aa.glob };rw[Zm4];simp only[LX,Kk,Nat.sub_zero];cases ht:as[t]? with
    | none=>exact trivial
    | some x=>
     obtain⟨v,h1,h2⟩:=aa.args.get t x ht;have h3:(args.toArray++Array.replicate (fn.ntmps-args.toArray.size) undef).getD t undef=v:=by
      have ak:=(Kc.1 h1).1;have h4:=Ki ak;rw[h1] at h4;simp[Array.getElem?_append,ak];exact(Option.some.inj h4).symm
     rw[h3];exact h2
   have hm:ZiF Γ h.length:=by
    refine⟨aa.names,fun k hk=>?_⟩;have hl:lkp (YJ 0 h) k=some h[k]:=by rw[Vt];simp[hk]
    have ho:=aa.objs k _ hl;cases hq:h[k] with
    | box cs=>rw[hq] at ho;obtain⟨b,cur,e,h1,_⟩:=ho;exact⟨_,h1⟩
    | row sz xs e z=>rw[hq] at ho;obtain⟨ad,n,c,h1,_⟩:=ho;exact⟨_,h1⟩
    | gone=>rw[hq] at ho;exact ho
    | tree sz ns xs lk=>rw[hq] at ho;obtain⟨ad,n,c,h1,_⟩:=ho;exact⟨_,h1⟩
   have hc:Zai Γ Γ (YJ 0 h):=ZX.refl Γ;refine Za3 (F:=F) (A:=A) (Γ0:=Γ) hC hD aj c am hr hS hc hm fun a' w' hp=>?_;have al:(bnd (Qe (ZiB ab) rs) fun vs=>some (Y2 h.length ab.hp (Jg vs)))=some (res,hs)→a'.defers=[]∧∃ v,(results fn a'.tmps).run P w'=.ok v w'∧∃ v2 I' Γ',Ending.returned v=.returned v2∧ZpC F A I Γ w hs res I' Γ' v2 w':=by
    intro af;obtain⟨I',Γ',b1,b2,b3,b4,b5⟩:=hp;obtain⟨vs,ar,af⟩:=Za af;obtain⟨us,au,ai⟩:=ZbZ b5 an ar;refine⟨b5.dfr,(if h:us.toArray.size=1 then us.toArray[0] else .tuple us.toArray),?_,_,I',Ji ab.hp (QF ab.hp (Xe ab.hp) (Zl (Jg vs)++Vc ab.hp (List.range h.length)) (List.range h.length)) Γ',rfl,?_⟩
    ·unfold results;rw[Sem.run_bind,Array.mapM_eq_mapM_toList,Sem.run_map];exact congrArg (fun r:Result (List Value)=>(r.andThen fun a w'=>Result.ok a.toArray w').andThen fun a w'=>Sem.run P (pure (if h:a.size=1 then a[0] else Value.tuple a)) w') au
    ·have av:=(Wc ab.hp (Xe ab.hp) (Zl (Jg vs)++Vc ab.hp (List.range h.length)) (List.range h.length) LQ).1;obtain⟨t1,t2,t3⟩:=Zom b5 av (ZbY b5 b1 hm);simp only[Y2,Option.some.injEq,Prod.mk.injEq] at af;obtain⟨rfl,rfl⟩:=af;have aw:=Zkh (hp:=ab.hp) (hp':=ab.hp) (n:=Xe ab.hp) (todo:=Zl (Jg vs)++Vc ab.hp (List.range h.length)) (m:=h.length) b1 hm;exact { heads:=aw,keeps:=b2,sub:=b3,fr:=b4,res:=ZiG _ (Zpd ai),objs:=t1,inj:=t2,bound:=b5.bound,names:=fun id ah=>t3 id (by simpa [Jq] using ah) }
   cases ex with
   | normal=>exact al (by simpa [JQ] using hv)
   | ret=>exact al (by simpa [JQ] using hv)
   | exit id=>simp[JQ] at hv
 ·cases hv
end
end Go.Abs
set_option linter.unusedVariables false
set_option linter.unusedSimpArgs false
namespace Go.Abs
open Go
theorem Zaj {C:Orc} {M:Zh} {nx i:Nat} {t:Bool} {o:COp} {sl:Sl} {hp:Hp} {ce:Zb} (h:YI C M nx i t o sl hp=some ce):vop C M sl hp (nx+64*i) o=some ce:=by
 unfold YI at h;split at h
 ·exact h
 ·unfold Jf at h;obtain⟨c,h1,h⟩:=Za h;unfold ZaZ at h;split at h
  ·cases h;exact h1
  ·cases h
structure Zcy (P:Program) (X:Fns) (M:Zh):Prop where
 text:∀ f cf,X f=some (.text cf)→∃ fn,P.funcs[f]?=some fn∧(fn.name == "runtime.NumGoroutine")=false∧cFun P fn=some (Zfr cf)
 prim:∀ f p,X f=some (.prim p)→∀ as h r hs,p as h=some (r,hs)→Zhy P f as h r hs
theorem Za4 {P:Program} {X:Fns} {M:Zh} (hX:Zcy P X M) (hD:∀ C nt,Qf P C→Vd P C M nt):∀ n,Qf P (Z2 X M n)
 | 0=>fun f as h r hs hv=>by simp only[Z2] at hv;cases hv
 | n+1=>fun f as h r hs hv=>by
  simp only[Z2] at hv;have hC:=Za4 hX hD n;cases hf:X f with
  | none=>rw[hf] at hv;simp only[Zfn] at hv;cases hv
  | some g=>
   rw[hf] at hv;cases g with
   | text cf=>
    simp only[Zfn] at hv;obtain⟨fn,h1,h2,h3⟩:=hX.text f cf hf;exact Zoo hC h1 h2 h3 (hD _ _ hC) hv
   | prim p=>simp only[Zfn] at hv;exact hX.prim f p hf as h r hs hv
theorem Zgd {P:Program} {X:Fns} {M:Zh} (hX:Zcy P X M) (hD:∀ C nt,Qf P C→Vd P C M nt):Qf P (Zj X M):=fun f as h r hs hv=>by
 obtain⟨n,hn⟩:=ZbW hv;exact Za4 hX hD n f as h r hs hn
end Go.Abs
