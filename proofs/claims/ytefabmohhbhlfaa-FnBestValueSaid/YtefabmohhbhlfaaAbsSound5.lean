/- Own text. -/
import Derived.Test.YtefabmohhbhlfaaAbsSound3
set_option linter.unusedVariables false
set_option linter.unusedSimpArgs false
namespace Go.Abs
open Go
section
variable {P:Program} {nt:Nat} {F A:Nat→Prop} {Γ0:Gh}
theorem Zlg:∀ (l:List AV) (k t:Nat),gs (Yi k l) t=if k≤t then W5 l[t-k]? else .junk
 | [],k,t=>by simp[Yi,gs,lkp,W5]
 | v :: r,k,t=>by
  have ih:=Zlg r (k+1) t;have aa:gs (Yi k (v :: r)) t=if k=t then W5 (Znq (some v) (lkp (Yi (k+1) r) t)) else gs (Yi (k+1) r) t:=by
   simp only[Yi,gs,Zcz];by_cases h:k=t
   ·simp[h]
   ·simp only[h,Kj];cases lkp (Yi (k+1) r) t<;>rfl
  rw[aa];by_cases h1:k=t
  ·subst h1;have h2:lkp (Yi (k+1) r) k=none:=by
    have:∀ (l:List AV) (j:Nat),k<j→lkp (Yi j l) k=none:=by
     intro l
     induction l with
     | nil=>intro j _;rfl
     | cons a l ihl=>
      intro j hj;simp only[Yi,Zcz,ihl (j+1) (by omega)];rw[Kp (by omega)];rfl
    exact this r (k+1) (by omega)
   rw[h2];simp[Znq,W5]
  ·rw[Kp h1,ih];by_cases h2:k≤t
   ·rw[Kt (by omega),Kt h2];have:t-k=(t-(k+1))+1:=by omega
    rw[this];simp
   ·rw[Kp (by omega),Kp h2]
theorem Ze0 {v:Value} {u:Value} {t:TypeId} {w:World} (h:(Instr.loadAt t v).run P w=.ok u w):(do loadVar t (← asAddr v):Sem Value).run P w=.ok u w:=by
 cases v with
 | pointer a=>
  cases a with
  | none=>simp[Instr.loadAt,Instr.sureAddr] at h
  | some a=>simpa [Instr.loadAt,Instr.sureAddr,asAddr] using h
 | _=>simp[Instr.loadAt,Instr.sureAddr] at h
theorem ZaS {I:Nat→Prop} {Γ:Gh} {st:St} {a:Act} {w:World} (h:Sim nt F A I Γ (VM st.nx) st.sl st.hp a w):∀ {aa:List ResultVar} {rs:List ZhZ} {vs:List AV},Z7 (cRes P) aa=some rs→Z7 (ZgD st) rs=some vs →
  ∃ us:List Value,(aa.mapM (m:=Sem) fun
   | .tmp t=>pure (a.tmps.getD t undef)
   | .cell c t=>do loadVar t (← asAddr (a.tmps.getD c undef))).run P w=.ok us w∧Zp (Rep Γ w I) vs us
 | [],rs,vs,hr,hv=>by
  simp only[Z7] at hr;cases hr;simp only[Z7] at hv;cases hv;exact⟨[],by simp,trivial⟩
 | rv :: aa,rs,vs,hr,hv=>by
  simp only[Z7] at hr;obtain⟨r,h1,hr⟩:=Za hr;obtain⟨ad,h2,hr⟩:=Za hr;cases hr;simp only[Z7] at hv;obtain⟨v,h3,hv⟩:=Za hv;obtain⟨ae,h4,hv⟩:=Za hv;cases hv;obtain⟨us,h5,h6⟩:=ZaS h h2 h4;cases rv with
  | tmp t=>
   simp only[cRes] at h1;cases h1;simp only[ZgD] at h3;cases h3;refine⟨a.tmps.getD t undef :: us,?_,h.slots t,h6⟩;simp only[List.mapM_cons,Sem.run_bind,Sem.run_pure,Result.andThen_ok,h5]
  | cell c t=>
   simp only[cRes] at h1;obtain⟨g,h7,h1⟩:=Za h1;cases h1;simp only[ZgD] at h3;obtain⟨u,h8,h9⟩:=ZkQ (P:=P) h7 h.hpOK (h.slots c) h3;have ab:=Ze0 h8;refine⟨u :: us,?_,h9,h6⟩;simp only[List.mapM_cons];rw[Sem.run_bind,ab];simp only[Result.andThen_ok,Sem.run_bind,h5,Sem.run_pure]
theorem ZiV {Γ:Gh} {w:World} {I:Nat→Prop}:∀ {vs:List AV} {us:List Value},Zch vs=false→Zp (Rep Γ w I) vs us→Zp (VH Γ w I) vs us
 | [],[],_,_=>trivial
 | [],_ :: _,_,h=>h.elim
 | _ :: _,[],_,h=>h.elim
 | v :: vs,u :: us,hn,h=>by
  simp only[Zch,Bool.or_eq_false_iff] at hn;refine⟨?_,ZiV hn.2 h.2⟩;cases v<;>first | exact h.1 | (simp[Zm7] at hn)
theorem Zna {Γ:Gh} {w:World} {I:Nat→Prop} {vs:List AV} {us:List Value} (h:Zp (Rep Γ w I) vs us):Rep Γ w I (Up vs) (if h:us.toArray.size=1 then us.toArray[0] else .tuple us.toArray):=by
 match vs,us,h with
 | [],[],h=>exact⟨#[],rfl,trivial⟩
 | [v],[u],h=>exact h.1
 | v :: v' :: vs,u :: u' :: us,h=>
  simp only[Up];cases hn:Zch (v :: v' :: vs)
  ·simp only[Ka,Kj];rw[dif_neg (by simp)];exact⟨_,rfl,by simpa using ZiV hn h⟩
  ·exact trivial
theorem Zmp {C:Orc} {M:Zg} (hC:Qc P C) {f:FuncId} {fn:Func} {cf:Qo} (hf:P.funcs[f]?=some fn) (ag:(fn.name == "runtime.NumGoroutine")=false) (ae:cFun P fn=some (Zd0 cf)) (hD:YJ P C M fn.ntmps)
  {N:Nat} {as:List AV} {h:List Zh} {res:AV} {hs:List Zh} (hv:ZgE C M N cf as h=some (res,hs)):Zfy P f as h res hs:=by
 unfold cFun at ae;obtain⟨c,hb,ae⟩:=Za ae;obtain⟨cc,am,ae⟩:=Za ae;obtain⟨rs,an,ae⟩:=Za ae;obtain⟨cnt,ao,aj⟩:=cf;simp only[Zd0,Option.some.injEq,Qo.mk.injEq] at ae;obtain⟨rfl,rfl,rfl⟩:=ae;refine⟨⟨fn,hf,ag,by rw[hb];rfl⟩,fun F A I Γ args w aa=>?_⟩;unfold ZgE at hv;split at hv
 ·rename_i ap;simp only at ap hv;cases hr:Zt C M N aj { sl:=Yi 0 as,hp:=Yu 0 h,nx:=h.length,m:=h.length } with
  | none=>rw[hr] at hv;simp[U5] at hv
  | some q=>
   obtain⟨ex,ab⟩:=q;rw[hr] at hv;have aq:as.length=args.length:=aa.args.length;refine calls_of_wp hf hb ?_;have hS:Sim fn.ntmps F A I Γ (VM h.length) (Yi 0 as) (Yu 0 h) { tmps:=args.toArray++Array.replicate (fn.ntmps-args.toArray.size) undef,defers:=[] } w:=by
    refine { nt:=by simp;omega,dfr:=rfl,slots:=fun t=>?_,objs:=aa.objs,inj:=aa.inj,bound:=aa.bound,fresh:=aa.fresh,own:=aa.own,names:=fun id ah=>aa.names id (by simpa [VM] using ah),glob:=aa.glob };rw[Zlg];simp only[Nat.zero_le,Kl,Kaa];cases ht:as[t]? with
    | none=>exact trivial
    | some x=>
     obtain⟨v,h1,h2⟩:=aa.args.get t x ht;have h3:(args.toArray++Array.replicate (fn.ntmps-args.toArray.size) undef).getD t undef=v:=by
      have ak:=(Kd.1 h1).1;have h4:=Kx ak;rw[h1] at h4;simp[Array.getElem?_append,ak];exact(Option.some.inj h4).symm
     rw[h3];exact h2
   have hm:ZgI Γ h.length:=by
    refine⟨aa.names,fun k hk=>?_⟩;have hl:lkp (Yu 0 h) k=some h[k]:=by rw[Vx];simp[hk]
    have ho:=aa.objs k _ hl;cases hq:h[k] with
    | box cs=>rw[hq] at ho;obtain⟨b,cur,e,h1,_⟩:=ho;exact⟨_,h1⟩
    | row sz xs e z=>rw[hq] at ho;obtain⟨ad,n,c,h1,_⟩:=ho;exact⟨_,h1⟩
    | gone=>rw[hq] at ho;exact ho
    | tree sz ns xs lk=>rw[hq] at ho;obtain⟨ad,n,c,h1,_⟩:=ho;exact⟨_,h1⟩
   have hc:J7 Γ Γ (Yu 0 h):=ZU.refl Γ;refine J9 (F:=F) (A:=A) (Γ0:=Γ) hC hD aj c am hr hS hc hm fun a' w' hp=>?_;have al:(bnd (Z7 (ZgD ab) rs) fun vs=>some (Yv h.length ab.hp (Up vs)))=some (res,hs)→a'.defers=[]∧∃ v,(results fn a'.tmps).run P w'=.ok v w'∧∃ v2 I' Γ',Ending.returned v=.returned v2∧Back F A I Γ w hs res I' Γ' v2 w':=by
    intro af;obtain⟨I',Γ',b1,b2,b3,b4,b5⟩:=hp;obtain⟨vs,ar,af⟩:=Za af;obtain⟨us,au,ai⟩:=ZaS b5 an ar;refine⟨b5.dfr,(if h:us.toArray.size=1 then us.toArray[0] else .tuple us.toArray),?_,_,I',Ur ab.hp (Qu ab.hp (QT ab.hp) (Zm (Up vs)++YI ab.hp (List.range h.length)) (List.range h.length)) Γ',rfl,?_⟩
    ·unfold results;rw[Sem.run_bind,Array.mapM_eq_mapM_toList,Sem.run_map];exact congrArg (fun r:Result (List Value)=>(r.andThen fun a w'=>Result.ok a.toArray w').andThen fun a w'=>Sem.run P (pure (if h:a.size=1 then a[0] else Value.tuple a)) w') au
    ·have av:=(Vw ab.hp (QT ab.hp) (Zm (Up vs)++YI ab.hp (List.range h.length)) (List.range h.length) L3).1;obtain⟨t1,t2,t3⟩:=Zmn b5 av (ZaR b5 b1 hm);simp only[Yv,Option.some.injEq,Prod.mk.injEq] at af;obtain⟨rfl,rfl⟩:=af;have aw:=ZiT (hp:=ab.hp) (hp':=ab.hp) (n:=QT ab.hp) (todo:=Zm (Up vs)++YI ab.hp (List.range h.length)) (m:=h.length) b1 hm;exact { heads:=aw,keeps:=b2,sub:=b3,fr:=b4,res:=ZgK _ (Zna ai),objs:=t1,inj:=t2,bound:=b5.bound,names:=fun id ah=>t3 id (by simpa [UH] using ah) }
   cases ex with
   | normal=>exact al (by simpa [U5] using hv)
   | ret=>exact al (by simpa [U5] using hv)
   | exit id=>simp[U5] at hv
 ·cases hv
end
end Go.Abs
set_option linter.unusedVariables false
set_option linter.unusedSimpArgs false
namespace Go.Abs
open Go
theorem Jv {C:Orc} {M:Zg} {nx i:Nat} {t:Bool} {o:COp} {sl:Sl} {hp:Hp} {ce:Zb} (h:Yk C M nx i t o sl hp=some ce):vop C M sl hp (nx+64*i) o=some ce:=by
 unfold Yk at h;split at h
 ·exact h
 ·unfold Un at h;obtain⟨c,h1,h⟩:=Za h;unfold J2 at h;split at h
  ·cases h;exact h1
  ·cases h
structure Zbr (P:Program) (X:Fns) (M:Zg):Prop where
 text:∀ f cf,X f=some (.text cf)→∃ fn,P.funcs[f]?=some fn∧(fn.name == "runtime.NumGoroutine")=false∧cFun P fn=some (Zd0 cf)
 prim:∀ f p,X f=some (.prim p)→∀ as h r hs,p as h=some (r,hs)→Zfy P f as h r hs
theorem Zaa {P:Program} {X:Fns} {M:Zg} (hX:Zbr P X M) (hD:∀ C nt,Qc P C→YJ P C M nt):∀ n,Qc P (ZV X M n)
 | 0=>fun f as h r hs hv=>by simp only[ZV] at hv;cases hv
 | n+1=>fun f as h r hs hv=>by
  simp only[ZV] at hv;have hC:=Zaa hX hD n;cases hf:X f with
  | none=>rw[hf] at hv;simp only[ZdW] at hv;cases hv
  | some g=>
   rw[hf] at hv;cases g with
   | text cf=>
    simp only[ZdW] at hv;obtain⟨fn,h1,h2,h3⟩:=hX.text f cf hf;exact Zmp hC h1 h2 h3 (hD _ _ hC) hv
   | prim p=>simp only[ZdW] at hv;exact hX.prim f p hf as h r hs hv
theorem ZeO {P:Program} {X:Fns} {M:Zg} (hX:Zbr P X M) (hD:∀ C nt,Qc P C→YJ P C M nt):Qc P (Zu X M):=fun f as h r hs hv=>by
 obtain⟨n,hn⟩:=ZaP hv;exact Zaa hX hD n f as h r hs hn
end Go.Abs
