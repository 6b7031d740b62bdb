/- Own text. -/
import Derived.Test.YtnachaiejoflhaaAbsSound3
set_option linter.unusedVariables false
set_option linter.unusedSimpArgs false
namespace Go.Abs
open Go
section
variable {P:Program} {nt:Nat} {F A:Nat→Prop} {Γ0:Gh}
theorem Znw:∀ (l:List AV) (k t:Nat),gs (Yr k l) t=if k≤t then JV l[t-k]? else .junk
 | [],k,t=>by simp[Yr,gs,lkp,JV]
 | v :: r,k,t=>by
  have ih:=Znw r (k+1) t;have aa:gs (Yr k (v :: r)) t=if k=t then JV (Zqi (some v) (lkp (Yr (k+1) r) t)) else gs (Yr (k+1) r) t:=by
   simp only[Yr,gs,Zev];by_cases h:k=t
   ·simp[h]
   ·simp only[h,Ki];cases lkp (Yr (k+1) r) t<;>rfl
  rw[aa];by_cases h1:k=t
  ·subst h1;have h2:lkp (Yr (k+1) r) k=none:=by
    have:∀ (l:List AV) (j:Nat),k<j→lkp (Yr j l) k=none:=by
     intro l
     induction l with
     | nil=>intro j _;rfl
     | cons a l ihl=>
      intro j hj;simp only[Yr,Zev,ihl (j+1) (by omega)];rw[Kn (by omega)];rfl
    exact this r (k+1) (by omega)
   rw[h2];simp[Zqi,JV]
  ·rw[Kn h1,ih];by_cases h2:k≤t
   ·rw[Kt (by omega),Kt h2];have:t-k=(t-(k+1))+1:=by omega
    rw[this];simp
   ·rw[Kn (by omega),Kn h2]
theorem ZgP {v:Value} {u:Value} {t:TypeId} {w:World} (h:(Instr.loadAt t v).run P w=.ok u w):(do loadVar t (← asAddr v):Sem Value).run P w=.ok u w:=by
 cases v with
 | pointer a=>
  cases a with
  | none=>simp[Instr.loadAt,Instr.sureAddr] at h
  | some a=>simpa [Instr.loadAt,Instr.sureAddr,asAddr] using h
 | _=>simp[Instr.loadAt,Instr.sureAddr] at h
theorem Zcq {I:Nat→Prop} {Γ:Gh} {st:St} {a:Act} {w:World} (h:Sim nt F A I Γ (WB st.nx) st.sl st.hp a w):∀ {aa:List ResultVar} {rs:List Zjt} {vs:List AV},Qa (cRes P) aa=some rs→Qa (Zio st) rs=some vs →
  ∃ us:List Value,(aa.mapM (m:=Sem) fun
   | .tmp t=>pure (a.tmps.getD t undef)
   | .cell c t=>do loadVar t (← asAddr (a.tmps.getD c undef))).run P w=.ok us w∧Zp (Rep Γ w I) vs us
 | [],rs,vs,hr,hv=>by
  simp only[Qa] at hr;cases hr;simp only[Qa] at hv;cases hv;exact⟨[],by simp,trivial⟩
 | rv :: aa,rs,vs,hr,hv=>by
  simp only[Qa] at hr;obtain⟨r,h1,hr⟩:=Za hr;obtain⟨ad,h2,hr⟩:=Za hr;cases hr;simp only[Qa] at hv;obtain⟨v,h3,hv⟩:=Za hv;obtain⟨ae,h4,hv⟩:=Za hv;cases hv;obtain⟨us,h5,h6⟩:=Zcq h h2 h4;cases rv with
  | tmp t=>
   simp only[cRes] at h1;cases h1;simp only[Zio] at h3;cases h3;refine⟨a.tmps.getD t undef :: us,?_,h.slots t,h6⟩;simp only[List.mapM_cons,Sem.run_bind,Sem.run_pure,Result.andThen_ok,h5]
  | cell c t=>
   simp only[cRes] at h1;obtain⟨g,h7,h1⟩:=Za h1;cases h1;simp only[Zio] at h3;obtain⟨u,h8,h9⟩:=Zna (P:=P) h7 h.hpOK (h.slots c) h3;have ab:=ZgP h8;refine⟨u :: us,?_,h9,h6⟩;simp only[List.mapM_cons];rw[Sem.run_bind,ab];simp only[Result.andThen_ok,Sem.run_bind,h5,Sem.run_pure]
theorem ZkS {Γ:Gh} {w:World} {I:Nat→Prop}:∀ {vs:List AV} {us:List Value},Zd5 vs=false→Zp (Rep Γ w I) vs us→Zp (V9 Γ w I) vs us
 | [],[],_,_=>trivial
 | [],_ :: _,_,h=>h.elim
 | _ :: _,[],_,h=>h.elim
 | v :: vs,u :: us,hn,h=>by
  simp only[Zd5,Bool.or_eq_false_iff] at hn;refine⟨?_,ZkS hn.2 h.2⟩;cases v<;>first | exact h.1 | (simp[Zp0] at hn)
theorem Zp2 {Γ:Gh} {w:World} {I:Nat→Prop} {vs:List AV} {us:List Value} (h:Zp (Rep Γ w I) vs us):Rep Γ w I (Jf vs) (if h:us.toArray.size=1 then us.toArray[0] else .tuple us.toArray):=by
 match vs,us,h with
 | [],[],h=>exact⟨#[],rfl,trivial⟩
 | [v],[u],h=>exact h.1
 | v :: v' :: vs,u :: u' :: us,h=>
  simp only[Jf];cases hn:Zd5 (v :: v' :: vs)
  ·simp only[Ka,Ki];rw[dif_neg (by simp)];exact⟨_,rfl,by simpa using ZkS hn h⟩
  ·exact trivial
theorem Zph {C:Orc} {M:Zj} (hC:Qb P C) {f:FuncId} {fn:Func} {cf:ZE} (hf:P.funcs[f]?=some fn) (ag:(fn.name == "runtime.NumGoroutine")=false) (ae:cFun P fn=some (ZfN cf)) (hD:YW P C M fn.ntmps)
  {N:Nat} {as:List AV} {h:List Zk} {res:AV} {hs:List Zk} (hv:Zip C M N cf as h=some (res,hs)):Zhl P f as h res hs:=by
 unfold cFun at ae;obtain⟨c,hb,ae⟩:=Za ae;obtain⟨cc,am,ae⟩:=Za ae;obtain⟨rs,an,ae⟩:=Za ae;obtain⟨cnt,ao,aj⟩:=cf;simp only[ZfN,Option.some.injEq,ZE.mk.injEq] at ae;obtain⟨rfl,rfl,rfl⟩:=ae;refine⟨⟨fn,hf,ag,by rw[hb];rfl⟩,fun F A I Γ args w aa=>?_⟩;unfold Zip at hv;split at hv
 ·rename_i ap;simp only at ap hv;cases hr:Zy C M N aj { sl:=Yr 0 as,hp:=YF 0 h,nx:=h.length,m:=h.length } with
  | none=>rw[hr] at hv;simp[J8] at hv
  | some q=>
   obtain⟨ex,ab⟩:=q;rw[hr] at hv;have aq:as.length=args.length:=aa.args.length;refine calls_of_wp hf hb ?_;have hS:Sim fn.ntmps F A I Γ (WB h.length) (Yr 0 as) (YF 0 h) { tmps:=args.toArray++Array.replicate (fn.ntmps-args.toArray.size) undef,defers:=[] } w:=by
    refine { nt:=by simp;omega,dfr:=rfl,slots:=fun t=>?_,objs:=aa.objs,inj:=aa.inj,bound:=aa.bound,fresh:=aa.fresh,own:=aa.own,names:=fun id ah=>aa.names id (by simpa [WB] using ah),glob:=aa.glob };rw[Znw];simp only[Nat.zero_le,Kj,Nat.sub_zero];cases ht:as[t]? with
    | none=>exact trivial
    | some x=>
     obtain⟨v,h1,h2⟩:=aa.args.get t x ht;have h3:(args.toArray++Array.replicate (fn.ntmps-args.toArray.size) undef).getD t undef=v:=by
      have ak:=(Kc.1 h1).1;have h4:=Kl ak;rw[h1] at h4;simp[Array.getElem?_append,ak];exact(Option.some.inj h4).symm
     rw[h3];exact h2
   have hm:Zir Γ h.length:=by
    refine⟨aa.names,fun k hk=>?_⟩;have hl:lkp (YF 0 h) k=some h[k]:=by rw[VZ];simp[hk]
    have ho:=aa.objs k _ hl;cases hq:h[k] with
    | box cs=>rw[hq] at ho;obtain⟨b,cur,e,h1,_⟩:=ho;exact⟨_,h1⟩
    | row sz xs e z=>rw[hq] at ho;obtain⟨ad,n,c,h1,_⟩:=ho;exact⟨_,h1⟩
    | gone=>rw[hq] at ho;exact ho
    | tree sz ns xs lk=>rw[hq] at ho;obtain⟨ad,n,c,h1,_⟩:=ho;exact⟨_,h1⟩
   have hc:ZaE Γ Γ (YF 0 h):=ZZ.refl Γ;refine Zbf (F:=F) (A:=A) (Γ0:=Γ) hC hD aj c am hr hS hc hm fun a' w' hp=>?_;have al:(bnd (Qa (Zio ab) rs) fun vs=>some (YG h.length ab.hp (Jf vs)))=some (res,hs)→a'.defers=[]∧∃ v,(results fn a'.tmps).run P w'=.ok v w'∧∃ v2 I' Γ',Ending.returned v=.returned v2∧Back F A I Γ w hs res I' Γ' v2 w':=by
    intro af;obtain⟨I',Γ',b1,b2,b3,b4,b5⟩:=hp;obtain⟨vs,ar,af⟩:=Za af;obtain⟨us,au,ai⟩:=Zcq b5 an ar;refine⟨b5.dfr,(if h:us.toArray.size=1 then us.toArray[0] else .tuple us.toArray),?_,_,I',Jh ab.hp (Qy ab.hp (QZ ab.hp) (Zo (Jf vs)++YV ab.hp (List.range h.length)) (List.range h.length)) Γ',rfl,?_⟩
    ·unfold results;rw[Sem.run_bind,Array.mapM_eq_mapM_toList,Sem.run_map];exact congrArg (fun r:Result (List Value)=>(r.andThen fun a w'=>Result.ok a.toArray w').andThen fun a w'=>Sem.run P (pure (if h:a.size=1 then a[0] else Value.tuple a)) w') au
    ·have av:=(VY ab.hp (QZ ab.hp) (Zo (Jf vs)++YV ab.hp (List.range h.length)) (List.range h.length) LI).1;obtain⟨t1,t2,t3⟩:=Zpf b5 av (Zcp b5 b1 hm);simp only[YG,Option.some.injEq,Prod.mk.injEq] at af;obtain⟨rfl,rfl⟩:=af;have aw:=ZkR (hp:=ab.hp) (hp':=ab.hp) (n:=QZ ab.hp) (todo:=Zo (Jf vs)++YV ab.hp (List.range h.length)) (m:=h.length) b1 hm;exact { heads:=aw,keeps:=b2,sub:=b3,fr:=b4,res:=Zis _ (Zp2 ai),objs:=t1,inj:=t2,bound:=b5.bound,names:=fun id ah=>t3 id (by simpa [JE] using ah) }
   cases ex with
   | normal=>exact al (by simpa [J8] using hv)
   | ret=>exact al (by simpa [J8] using hv)
   | exit id=>simp[J8] at hv
 ·cases hv
end
end Go.Abs
set_option linter.unusedVariables false
set_option linter.unusedSimpArgs false
namespace Go.Abs
open Go
theorem ZaF {C:Orc} {M:Zj} {nx i:Nat} {t:Bool} {o:COp} {sl:Sl} {hp:Hp} {ce:Zb} (h:Yt C M nx i t o sl hp=some ce):vop C M sl hp (nx+64*i) o=some ce:=by
 unfold Yt at h;split at h
 ·exact h
 ·unfold Je at h;obtain⟨c,h1,h⟩:=Za h;unfold Zbb at h;split at h
  ·cases h;exact h1
  ·cases h
structure Zdd (P:Program) (X:Fns) (M:Zj):Prop where
 text:∀ f cf,X f=some (.text cf)→∃ fn,P.funcs[f]?=some fn∧(fn.name == "runtime.NumGoroutine")=false∧cFun P fn=some (ZfN cf)
 prim:∀ f p,X f=some (.prim p)→∀ as h r hs,p as h=some (r,hs)→Zhl P f as h r hs
theorem Zbg {P:Program} {X:Fns} {M:Zj} (hX:Zdd P X M) (hD:∀ C nt,Qb P C→YW P C M nt):∀ n,Qb P (Z4 X M n)
 | 0=>fun f as h r hs hv=>by simp only[Z4] at hv;cases hv
 | n+1=>fun f as h r hs hv=>by
  simp only[Z4] at hv;have hC:=Zbg hX hD n;cases hf:X f with
  | none=>rw[hf] at hv;simp only[ZfJ] at hv;cases hv
  | some g=>
   rw[hf] at hv;cases g with
   | text cf=>
    simp only[ZfJ] at hv;obtain⟨fn,h1,h2,h3⟩:=hX.text f cf hf;exact Zph hC h1 h2 h3 (hD _ _ hC) hv
   | prim p=>simp only[ZfJ] at hv;exact hX.prim f p hf as h r hs hv
theorem ZgD {P:Program} {X:Fns} {M:Zj} (hX:Zdd P X M) (hD:∀ C nt,Qb P C→YW P C M nt):Qb P (Zh X M):=fun f as h r hs hv=>by
 obtain⟨n,hn⟩:=Zcn hv;exact Zbg hX hD n f as h r hs hn
end Go.Abs
