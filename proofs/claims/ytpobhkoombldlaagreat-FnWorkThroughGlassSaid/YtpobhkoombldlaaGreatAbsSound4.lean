/- The abstract semantics and the model: functions,programs. Own text. -/
import Derived.Test.YtpobhkoombldlaaGreatAbsSound3
set_option linter.unusedVariables false
set_option linter.unusedSimpArgs false
namespace Go.Abs
open Go
section
variable {P:Program} {nt:Nat} {F A:Nat→Prop} {Γ0:Gh}
theorem ZvM:∀ (l:List AV) (k t:Nat),gs (UI k l) t=if k≤t then ZeQ l[t-k]? else .junk
 | [],k,t=>by simp[UI,gs,lkp,ZeQ]
 | v :: r,k,t=>by
  have ih:=ZvM r (k+1) t
  have key:gs (UI k (v :: r)) t=if k=t then ZeQ (Zys (some v) (lkp (UI (k+1) r) t)) else gs (UI (k+1) r) t:=by
   simp only[UI,gs,Zle]
   by_cases h:k=t
   ·simp[h]
   ·simp only[h,if_false];cases lkp (UI (k+1) r) t<;>rfl
  rw[key]
  by_cases h1:k=t
  ·subst h1
   have h2:lkp (UI (k+1) r) k=none:=by
    have:∀ (l:List AV) (j:Nat),k<j→lkp (UI j l) k=none:=by
     intro l
     induction l with
     | nil=>intro j _;rfl
     | cons a l ihl=>
      intro j hj
      simp only[UI,Zle,ihl (j+1) (by omega)]
      rw[if_neg (by omega)];rfl
    exact this r (k+1) (by omega)
   rw[h2];simp[Zys,ZeQ]
  ·rw[if_neg h1,ih]
   by_cases h2:k≤t
   ·rw[if_pos (by omega),if_pos h2]
    have:t-k=(t-(k+1))+1:=by omega
    rw[this];simp
   ·rw[if_neg (by omega),if_neg h2]
theorem Zol {v:Value} {u:Value} {t:TypeId} {w:World} (h:(Instr.loadAt t v).run P w=.ok u w):(do loadVar t (← asAddr v):Sem Value).run P w=.ok u w:=by
 cases v with
 | pointer a=>
  cases a with
  | none=>simp[Instr.loadAt,Instr.sureAddr] at h
  | some a=>simpa [Instr.loadAt,Instr.sureAddr,asAddr] using h
 | _=>simp[Instr.loadAt,Instr.sureAddr] at h
theorem ZhM {I:Nat→Prop} {Γ:Gh} {st:St} {a:Act} {w:World} (h:Sim nt F A I Γ (ZbK st.nx) st.sl st.hp a w):∀ {rvs:List ResultVar} {rs:List ZrD} {vs:List AV},QV (cRes P) rvs=some rs→QV (Zok st) rs=some vs →
  ∃ us:List Value,(rvs.mapM (m:=Sem) fun
   | .tmp t=>pure (a.tmps.getD t undef)
   | .cell c t=>do loadVar t (← asAddr (a.tmps.getD c undef))).run P w=.ok us w∧ZB (Rep Γ w I) vs us
 | [],rs,vs,hr,hv=>by
  simp only[QV] at hr;cases hr
  simp only[QV] at hv;cases hv
  exact⟨[],by simp,trivial⟩
 | rv :: rvs,rs,vs,hr,hv=>by
  simp only[QV] at hr
  obtain⟨r,h1,hr⟩:=Za hr
  obtain⟨rs',h2,hr⟩:=Za hr
  cases hr
  simp only[QV] at hv
  obtain⟨v,h3,hv⟩:=Za hv
  obtain⟨vs',h4,hv⟩:=Za hv
  cases hv
  obtain⟨us,h5,h6⟩:=ZhM h h2 h4
  cases rv with
  | tmp t=>
   simp only[cRes] at h1;cases h1
   simp only[Zok] at h3;cases h3
   refine⟨a.tmps.getD t undef :: us,?_,h.slots t,h6⟩
   simp only[List.mapM_cons,Sem.run_bind,Sem.run_pure,Result.andThen_ok,h5]
  | cell c t=>
   simp only[cRes] at h1
   obtain⟨g,h7,h1⟩:=Za h1
   cases h1
   simp only[Zok] at h3
   obtain⟨u,h8,h9⟩:=Zvp (P:=P) h7 h.hpOK (h.slots c) h3
   have h10:=Zol h8
   refine⟨u :: us,?_,h9,h6⟩
   simp only[List.mapM_cons]
   rw[Sem.run_bind,h10]
   simp only[Result.andThen_ok,Sem.run_bind,h5,Sem.run_pure]
theorem ZsW {Γ:Gh} {w:World} {I:Nat→Prop}:∀ {vs:List AV} {us:List Value},ZkO vs=false→ZB (Rep Γ w I) vs us→ZB (Za1 Γ w I) vs us
 | [],[],_,_=>trivial
 | [],_ :: _,_,h=>h.elim
 | _ :: _,[],_,h=>h.elim
 | v :: vs,u :: us,hn,h=>by
  simp only[ZkO,Bool.or_eq_false_iff] at hn
  refine⟨?_,ZsW hn.2 h.2⟩
  cases v<;>first | exact h.1 | (simp[Zyf] at hn)
theorem Zyh {Γ:Gh} {w:World} {I:Nat→Prop} {vs:List AV} {us:List Value} (h:ZB (Rep Γ w I) vs us):Rep Γ w I (Zdg vs) (if h:us.toArray.size=1 then us.toArray[0] else .tuple us.toArray):=by
 match vs,us,h with
 | [],[],h=>exact⟨#[],rfl,trivial⟩
 | [v],[u],h=>exact h.1
 | v :: v' :: vs,u :: u' :: us,h=>
  simp only[Zdg]
  cases hn:ZkO (v :: v' :: vs)
  ·simp only[Bool.false_eq_true,if_false]
   rw[dif_neg (by simp)]
   exact⟨_,rfl,by simpa using ZsW hn h⟩
  ·exact trivial
theorem Zxt {C:Orc} {M:Zu} (hC:QH P C) (hB:WP C) {f:FuncId} {fn:Func} {cf:Zz} (hf:P.funcs[f]?=some fn) (hname:(fn.name == "runtime.NumGoroutine")=false) (hcf:cFun P fn=some (Zm1 cf)) (hD:Ug P C M fn.ntmps)
  {N:Nat} {as:List AV} {h:List Zt} {res:AV} {hs:List Zt} (hv:ZlH C M N cf as h=some (res,hs)):Zo5 P f as h res hs:=by
 unfold cFun at hcf
 obtain⟨c,hb,hcf⟩:=Za hcf
 obtain⟨cc,hcc,hcf⟩:=Za hcf
 obtain⟨rs,hrs,hcf⟩:=Za hcf
 obtain⟨cnt,cres,cc0⟩:=cf
 simp only[Zm1,Option.some.injEq,Zz.mk.injEq] at hcf
 obtain⟨rfl,rfl,rfl⟩:=hcf
 refine⟨⟨fn,hf,hname,by rw[hb];rfl⟩,fun F A I Γ args w hpre=>?_⟩
 unfold ZlH at hv
 split at hv
 ·rename_i hle
  simp only at hle hv
  cases hr:ZM C M N cc0 { sl:=UI 0 as,hp:=Uu 0 h,nx:=h.length,m:=h.length } with
  | none=>rw[hr] at hv;simp[Zc0] at hv
  | some q=>
   obtain⟨ex,st'⟩:=q
   rw[hr] at hv
   have hlen:as.length=args.length:=hpre.args.length
   refine calls_of_wp hf hb ?_
   have hS:Sim fn.ntmps F A I Γ (ZbK h.length) (UI 0 as) (Uu 0 h) { tmps:=args.toArray++Array.replicate (fn.ntmps-args.toArray.size) undef,defers:=[] } w:=by
    refine { nt:=by simp;omega,dfr:=rfl,slots:=fun t=>?_,objs:=hpre.objs,inj:=hpre.inj,bound:=hpre.bound,fresh:=hpre.fresh,own:=hpre.own,names:=fun id hid=>hpre.names id (by simpa [ZbK] using hid),glob:=hpre.glob }
    rw[ZvM]
    simp only[Nat.zero_le,if_true,Nat.sub_zero]
    cases ht:as[t]? with
    | none=>exact trivial
    | some x=>
     obtain⟨v,h1,h2⟩:=hpre.args.get t x ht
     have h3:(args.toArray++Array.replicate (fn.ntmps-args.toArray.size) undef).getD t undef=v:=by
      have hlt:=(List.getElem?_eq_some_iff.1 h1).1
      have h4:=List.getElem?_eq_getElem hlt
      rw[h1] at h4
      simp[Array.getElem?_append,hlt]
      exact(Option.some.inj h4).symm
     rw[h3];exact h2
   have hc:Zgq Γ Γ (Uu 0 h):=by
    intro k b hk
    refine⟨hk,?_⟩
    have hkm:k<h.length:=by
     rcases Nat.lt_or_ge k h.length with h1 | h1
     ·exact h1
     ·rw[hpre.names k h1] at hk;cases hk
    have hl:lkp (Uu 0 h) k=some h[k]:=by rw[W6];simp[hkm]
    have ho:=hpre.objs k _ hl
    cases hq:h[k] with
    | box cs=>exact⟨cs,by rw[hl,hq]⟩
    | row sz xs e z=>
     rw[hq] at ho
     obtain⟨ad,n,c,h1,_⟩:=ho
     rw[hk] at h1;cases h1
    | deep sz ns xs lk=>
     rw[hq] at ho
     obtain⟨ad,n,c,h1,_⟩:=ho
     rw[hk] at h1;cases h1
   refine Zgr (F:=F) (A:=A) (Γ0:=Γ) hC hB hD cc0 c hcc hr hS hc hpre.names fun a' w' hp=>?_
   have fin:(bnd (QV (Zok st') rs) fun vs=>some (Wp h.length st'.hp (Zdg vs)))=some (res,hs)→a'.defers=[]∧∃ v,(results fn a'.tmps).run P w'=.ok v w'∧∃ v2 I' Γ',Ending.returned v=.returned v2∧Back F A I Γ w hs res I' Γ' v2 w':=by
    intro hres
    obtain⟨I',Γ',b1,b2,b3,b4,b5⟩:=hp
    obtain⟨vs,hvs,hres⟩:=Za hres
    obtain⟨us,hus,hrep⟩:=ZhM b5 hrs hvs
    refine⟨b5.dfr,(if h:us.toArray.size=1 then us.toArray[0] else .tuple us.toArray),?_,_,I',Zc2 st'.hp (Q0 st'.hp (XL st'.hp) (ZJ (Zdg vs)++UC st'.hp (List.range h.length)) (List.range h.length)) Γ',rfl,?_⟩
    ·unfold results
     rw[Sem.run_bind,Array.mapM_eq_mapM_toList,Sem.run_map]
     exact congrArg (fun r:Result (List Value)=>(r.andThen fun a w'=>Result.ok a.toArray w').andThen fun a w'=>Sem.run P (pure (if h:a.size=1 then a[0] else Value.tuple a)) w') hus
    ·have hnd:=(Zcw st'.hp (XL st'.hp) (ZJ (Zdg vs)++UC st'.hp (List.range h.length)) (List.range h.length) List.nodup_range).1
     obtain⟨t1,t2,t3⟩:=Zxs b5 hnd
     simp only[Wp,Option.some.injEq,Prod.mk.injEq] at hres
     obtain⟨rfl,rfl⟩:=hres
     have hcp:=ZsV (n:=XL st'.hp) (todo:=ZJ (Zdg vs)++UC st'.hp (List.range h.length)) (m:=h.length) b1 hpre.names
     exact { boxes:=fun id b hg=>(hcp id b hg).1,keeps:=b2,sub:=b3,fr:=b4,res:=Zp4 _ (Zyh hrep),objs:=t1,inj:=t2,bound:=b5.bound,names:=fun id hid=>t3 id (by simpa [Zer] using hid) }
   cases ex with
   | normal=>exact fin (by simpa [Zc0] using hv)
   | ret=>exact fin (by simpa [Zc0] using hv)
   | exit id=>simp[Zc0] at hv
 ·cases hv
end
end Go.Abs
