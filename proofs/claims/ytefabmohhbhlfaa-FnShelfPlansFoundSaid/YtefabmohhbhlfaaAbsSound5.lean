/- Own text. -/
import Derived.Test.YtefabmohhbhlfaaAbsSound3
set_option linter.unusedVariables false
set_option linter.unusedSimpArgs false
namespace Go.Abs
open Go
section
variable {P:Program} {nt:Nat} {F A:Nat→Prop} {Γ0:Gh}
theorem Zmp:∀ (l:List AV) (k t:Nat),gs (Yz k l) t=if k≤t then UD l[t-k]? else .junk
 | [],k,t=>by simp[Yz,gs,lkp,UD]
 | v :: r,k,t=>by
  have ih:=Zmp r (k+1) t;have aa:gs (Yz k (v :: r)) t=if k=t then UD (Zo3 (some v) (lkp (Yz (k+1) r) t)) else gs (Yz (k+1) r) t:=by
   simp only[Yz,gs,Zc6];by_cases h:k=t
   ·simp[h]
   ·simp only[h,Ki];cases lkp (Yz (k+1) r) t<;>rfl
  rw[aa];by_cases h1:k=t
  ·subst h1;have h2:lkp (Yz (k+1) r) k=none:=by
    have:∀ (l:List AV) (j:Nat),k<j→lkp (Yz j l) k=none:=by
     intro l
     induction l with
     | nil=>intro j _;rfl
     | cons a l ihl=>
      intro j hj;simp only[Yz,Zc6,ihl (j+1) (by omega)];rw[Kn (by omega)];rfl
    exact this r (k+1) (by omega)
   rw[h2];simp[Zo3,UD]
  ·rw[Kn h1,ih];by_cases h2:k≤t
   ·rw[Ko (by omega),Ko h2];have:t-k=(t-(k+1))+1:=by omega
    rw[this];simp
   ·rw[Kn (by omega),Kn h2]
theorem ZfK {v:Value} {u:Value} {t:TypeId} {w:World} (h:(Instr.loadAt t v).run P w=.ok u w):(do loadVar t (← asAddr v):Sem Value).run P w=.ok u w:=by
 cases v with
 | pointer a=>
  cases a with
  | none=>simp[Instr.loadAt,Instr.sureAddr] at h
  | some a=>simpa [Instr.loadAt,Instr.sureAddr,asAddr] using h
 | _=>simp[Instr.loadAt,Instr.sureAddr] at h
theorem Zbv {I:Nat→Prop} {Γ:Gh} {st:St} {a:Act} {w:World} (h:Sim nt F A I Γ (Wf st.nx) st.sl st.hp a w):∀ {aa:List ResultVar} {rs:List ZiS} {vs:List AV},Qb (cRes P) aa=some rs→Qb (Zht st) rs=some vs →
  ∃ us:List Value,(aa.mapM (m:=Sem) fun
   | .tmp t=>pure (a.tmps.getD t undef)
   | .cell c t=>do loadVar t (← asAddr (a.tmps.getD c undef))).run P w=.ok us w∧Zq (Rep Γ w I) vs us
 | [],rs,vs,hr,hv=>by
  simp only[Qb] at hr;cases hr;simp only[Qb] at hv;cases hv;exact⟨[],by simp,trivial⟩
 | rv :: aa,rs,vs,hr,hv=>by
  simp only[Qb] at hr;obtain⟨r,h1,hr⟩:=Za hr;obtain⟨ad,h2,hr⟩:=Za hr;cases hr;simp only[Qb] at hv;obtain⟨v,h3,hv⟩:=Za hv;obtain⟨ae,h4,hv⟩:=Za hv;cases hv;obtain⟨us,h5,h6⟩:=Zbv h h2 h4;cases rv with
  | tmp t=>
   simp only[cRes] at h1;cases h1;simp only[Zht] at h3;cases h3;refine⟨a.tmps.getD t undef :: us,?_,h.slots t,h6⟩;simp only[List.mapM_cons,Sem.run_bind,Sem.run_pure,Result.andThen_ok,h5]
  | cell c t=>
   simp only[cRes] at h1;obtain⟨g,h7,h1⟩:=Za h1;cases h1;simp only[Zht] at h3;obtain⟨u,h8,h9⟩:=ZlY (P:=P) h7 h.hpOK (h.slots c) h3;have ab:=ZfK h8;refine⟨u :: us,?_,h9,h6⟩;simp only[List.mapM_cons];rw[Sem.run_bind,ab];simp only[Result.andThen_ok,Sem.run_bind,h5,Sem.run_pure]
theorem ZjS {Γ:Gh} {w:World} {I:Nat→Prop}:∀ {vs:List AV} {us:List Value},ZcS vs=false→Zq (Rep Γ w I) vs us→Zq (Wa Γ w I) vs us
 | [],[],_,_=>trivial
 | [],_ :: _,_,h=>h.elim
 | _ :: _,[],_,h=>h.elim
 | v :: vs,u :: us,hn,h=>by
  simp only[ZcS,Bool.or_eq_false_iff] at hn;refine⟨?_,ZjS hn.2 h.2⟩;cases v<;>first | exact h.1 | (simp[ZoG] at hn)
theorem ZoJ {Γ:Gh} {w:World} {I:Nat→Prop} {vs:List AV} {us:List Value} (h:Zq (Rep Γ w I) vs us):Rep Γ w I (UY vs) (if h:us.toArray.size=1 then us.toArray[0] else .tuple us.toArray):=by
 match vs,us,h with
 | [],[],h=>exact⟨#[],rfl,trivial⟩
 | [v],[u],h=>exact h.1
 | v :: v' :: vs,u :: u' :: us,h=>
  simp only[UY];cases hn:ZcS (v :: v' :: vs)
  ·simp only[Ka,Ki];rw[dif_neg (by simp)];exact⟨_,rfl,by simpa using ZjS hn h⟩
  ·exact trivial
theorem ZnM {C:Orc} {M:Zg} (hC:Qh P C) {f:FuncId} {fn:Func} {cf:Z0} (hf:P.funcs[f]?=some fn) (ag:(fn.name == "runtime.NumGoroutine")=false) (ae:cFun P fn=some (ZeI cf)) (hD:Y5 P C M fn.ntmps)
  {N:Nat} {as:List AV} {h:List Zh} {res:AV} {hs:List Zh} (hv:Zhu C M N cf as h=some (res,hs)):Zgn P f as h res hs:=by
 unfold cFun at ae;obtain⟨c,hb,ae⟩:=Za ae;obtain⟨cc,am,ae⟩:=Za ae;obtain⟨rs,an,ae⟩:=Za ae;obtain⟨cnt,ao,aj⟩:=cf;simp only[ZeI,Option.some.injEq,Z0.mk.injEq] at ae;obtain⟨rfl,rfl,rfl⟩:=ae;refine⟨⟨fn,hf,ag,by rw[hb];rfl⟩,fun F A I Γ args w aa=>?_⟩;unfold Zhu at hv;split at hv
 ·rename_i ap;simp only at ap hv;cases hr:Zu C M N aj { sl:=Yz 0 as,hp:=YL 0 h,nx:=h.length,m:=h.length } with
  | none=>rw[hr] at hv;simp[JI] at hv
  | some q=>
   obtain⟨ex,ab⟩:=q;rw[hr] at hv;have aq:as.length=args.length:=aa.args.length;refine calls_of_wp hf hb ?_;have hS:Sim fn.ntmps F A I Γ (Wf h.length) (Yz 0 as) (YL 0 h) { tmps:=args.toArray++Array.replicate (fn.ntmps-args.toArray.size) undef,defers:=[] } w:=by
    refine { nt:=by simp;omega,dfr:=rfl,slots:=fun t=>?_,objs:=aa.objs,inj:=aa.inj,bound:=aa.bound,fresh:=aa.fresh,own:=aa.own,names:=fun id ah=>aa.names id (by simpa [Wf] using ah),glob:=aa.glob };rw[Zmp];simp only[Nat.zero_le,Kk,LV];cases ht:as[t]? with
    | none=>exact trivial
    | some x=>
     obtain⟨v,h1,h2⟩:=aa.args.get t x ht;have h3:(args.toArray++Array.replicate (fn.ntmps-args.toArray.size) undef).getD t undef=v:=by
      have ak:=(Kc.1 h1).1;have h4:=Kz ak;rw[h1] at h4;simp[Array.getElem?_append,ak];exact(Option.some.inj h4).symm
     rw[h3];exact h2
   have hm:Zhy Γ h.length:=by
    refine⟨aa.names,fun k hk=>?_⟩;have hl:lkp (YL 0 h) k=some h[k]:=by rw[VZ];simp[hk]
    have ho:=aa.objs k _ hl;cases hq:h[k] with
    | box cs=>rw[hq] at ho;obtain⟨b,cur,e,h1,_⟩:=ho;exact⟨_,h1⟩
    | row sz xs e z=>rw[hq] at ho;obtain⟨ad,n,c,h1,_⟩:=ho;exact⟨_,h1⟩
    | gone=>rw[hq] at ho;exact ho
    | tree sz ns xs lk=>rw[hq] at ho;obtain⟨ad,n,c,h1,_⟩:=ho;exact⟨_,h1⟩
   have hc:ZaH Γ Γ (YL 0 h):=ZY.refl Γ;refine ZaJ (F:=F) (A:=A) (Γ0:=Γ) hC hD aj c am hr hS hc hm fun a' w' hp=>?_;have al:(bnd (Qb (Zht ab) rs) fun vs=>some (YM h.length ab.hp (UY vs)))=some (res,hs)→a'.defers=[]∧∃ v,(results fn a'.tmps).run P w'=.ok v w'∧∃ v2 I' Γ',Ending.returned v=.returned v2∧Back F A I Γ w hs res I' Γ' v2 w':=by
    intro af;obtain⟨I',Γ',b1,b2,b3,b4,b5⟩:=hp;obtain⟨vs,ar,af⟩:=Za af;obtain⟨us,au,ai⟩:=Zbv b5 an ar;refine⟨b5.dfr,(if h:us.toArray.size=1 then us.toArray[0] else .tuple us.toArray),?_,_,I',U0 ab.hp (Qv ab.hp (QX ab.hp) (Zo (UY vs)++Y4 ab.hp (List.range h.length)) (List.range h.length)) Γ',rfl,?_⟩
    ·unfold results;rw[Sem.run_bind,Array.mapM_eq_mapM_toList,Sem.run_map];exact congrArg (fun r:Result (List Value)=>(r.andThen fun a w'=>Result.ok a.toArray w').andThen fun a w'=>Sem.run P (pure (if h:a.size=1 then a[0] else Value.tuple a)) w') au
    ·have av:=(VY ab.hp (QX ab.hp) (Zo (UY vs)++Y4 ab.hp (List.range h.length)) (List.range h.length) L5).1;obtain⟨t1,t2,t3⟩:=ZnK b5 av (Zbu b5 b1 hm);simp only[YM,Option.some.injEq,Prod.mk.injEq] at af;obtain⟨rfl,rfl⟩:=af;have aw:=ZjQ (hp:=ab.hp) (hp':=ab.hp) (n:=QX ab.hp) (todo:=Zo (UY vs)++Y4 ab.hp (List.range h.length)) (m:=h.length) b1 hm;exact { heads:=aw,keeps:=b2,sub:=b3,fr:=b4,res:=ZhA _ (ZoJ ai),objs:=t1,inj:=t2,bound:=b5.bound,names:=fun id ah=>t3 id (by simpa [Jj] using ah) }
   cases ex with
   | normal=>exact al (by simpa [JI] using hv)
   | ret=>exact al (by simpa [JI] using hv)
   | exit id=>simp[JI] at hv
 ·cases hv
end
end Go.Abs
set_option linter.unusedVariables false
set_option linter.unusedSimpArgs false
namespace Go.Abs
open Go
theorem J4 {C:Orc} {M:Zg} {nx i:Nat} {t:Bool} {o:COp} {sl:Sl} {hp:Hp} {ce:Zb} (h:YB C M nx i t o sl hp=some ce):vop C M sl hp (nx+64*i) o=some ce:=by
 unfold YB at h;split at h
 ·exact h
 ·unfold UW at h;obtain⟨c,h1,h⟩:=Za h;unfold ZaC at h;split at h
  ·cases h;exact h1
  ·cases h
structure Zb5 (P:Program) (X:Fns) (M:Zg):Prop where
 text:∀ f cf,X f=some (.text cf)→∃ fn,P.funcs[f]?=some fn∧(fn.name == "runtime.NumGoroutine")=false∧cFun P fn=some (ZeI cf)
 prim:∀ f p,X f=some (.prim p)→∀ as h r hs,p as h=some (r,hs)→Zgn P f as h r hs
theorem ZaK {P:Program} {X:Fns} {M:Zg} (hX:Zb5 P X M) (hD:∀ C nt,Qh P C→Y5 P C M nt):∀ n,Qh P (Z1 X M n)
 | 0=>fun f as h r hs hv=>by simp only[Z1] at hv;cases hv
 | n+1=>fun f as h r hs hv=>by
  simp only[Z1] at hv;have hC:=ZaK hX hD n;cases hf:X f with
  | none=>rw[hf] at hv;simp only[ZeE] at hv;cases hv
  | some g=>
   rw[hf] at hv;cases g with
   | text cf=>
    simp only[ZeE] at hv;obtain⟨fn,h1,h2,h3⟩:=hX.text f cf hf;exact ZnM hC h1 h2 h3 (hD _ _ hC) hv
   | prim p=>simp only[ZeE] at hv;exact hX.prim f p hf as h r hs hv
theorem Zfv {P:Program} {X:Fns} {M:Zg} (hX:Zb5 P X M) (hD:∀ C nt,Qh P C→Y5 P C M nt):Qh P (Zj X M):=fun f as h r hs hv=>by
 obtain⟨n,hn⟩:=Zbs hv;exact ZaK hX hD n f as h r hs hn
end Go.Abs
