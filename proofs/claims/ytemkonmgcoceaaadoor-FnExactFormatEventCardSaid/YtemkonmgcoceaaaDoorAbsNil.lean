/- The abstract semantics and the model: functions that begin by asking whether a slice is nil. Own text. -/
import Derived.Test.YtemkonmgcoceaaaDoorAbsDraw5
set_option linter.unusedVariables false
set_option linter.unusedSimpArgs false
namespace Go.Abs
open Go
section
variable {P:Program} {nt:Nat} {U:Nat→Prop} {F A I:Nat→Prop} {Γ:Gh} {sl:Sl} {hp:Hp} {a:Act} {w:World}
theorem ZkW {t e:TypeId} (h:P.underlying t=some (.slice e)) (ad:Option Addr) (n c:Nat):(binOp .eql t (.slice ad n c) (.slice none 0 0)).run P w=.ok (.bool ad.isNone) w:=by
 have h1:binOp .eql t (.slice ad n c) (.slice none 0 0)=(do let r ← Op.equalIn (9999+1) t (.slice ad n c) (.slice none 0 0);pure (.bool r)):=rfl
 rw[h1,Sem.run_bind]
 have h2:(Op.equalIn (9999+1) t (.slice ad n c) (.slice none 0 0)).run P w=.ok ad.isNone w:=by
  rw[Op.equalIn]
  rw[Sem.run_bind,run_underlying h]
  cases ad<;>rfl
 rw[h2];rfl
theorem Zmj (hs:Uc Γ w I sl a) {o:Oper} {t e ty:TypeId} {x:Operand} {x' : Opd} (ho:o.op=.binOp .eql t x (.const (.slice none 0 0)) ty) (hx:ZL x=some x') (ht:P.underlying t=some (.slice e)) {xs:List D} (hv:evO sl x'=.d (.sl xs)) :
  ∃ b,(b=true→xs=[])∧Xn P Γ I o a w { eff := { val:=.d (.bool b) },gone:=[] }:=by
 have h1:=hs.ev hx
 rw[hv] at h1
 obtain⟨ad,c,hh,hnil⟩:∃ ad c,a.eval x=.slice ad xs.length c∧(ad=none→xs=[]):=by
  obtain⟨ad,c,h2,_,h3⟩:=Z9.1 h1
  refine⟨ad,c,by simpa using h2,fun hn=>?_⟩
  rcases h3 with h3 | ⟨b,o,sz,h3,_⟩
  ·exact h3
  ·rw[hn] at h3;cases h3
 refine⟨ad.isNone,(fun hb=>hnil (by simpa using hb)),.bool ad.isNone,.d (.bool ad.isNone),.inl ?_,rfl,Z9.2 (Up _)⟩
 have hc:a.eval (.const (.slice none 0 0))=.slice none 0 0:=rfl
 simp only[execOp,ho]
 rw[hc,hh]
 simp[Zfm (P:=P) (w:=w) (op:=.eql) (t:=t) (x:=x) (y:=.const (.slice none 0 0)) (u:=.slice ad xs.length c) (v:=.slice none 0 0) (by simp) (by simp),ZkW ht]
def cL:Code→Code
 | .seq a _=>a
 | c=>c
def cR:Code→Code
 | .seq _ b=>b
 | c=>c
def cThen:Code→Code
 | .cond _ a _=>a
 | c=>c
def rId:Code→Nat
 | .region i _ _=>i
 | _=>0
def rOp (k:Nat):Code→Oper
 | .region _ ops _=>(ops[k]?).getD default
 | _=>default
def eqTy:Op→TypeId
 | .binOp _ t _ _ _=>t
 | _=>0
def eqTy2:Op→TypeId
 | .binOp _ _ _ _ t=>t
 | _=>0
def bodyOf (fn:Func):Code:=match fn.body with
 | some c=>c
 | none=>.skip
structure Znb (P:Program) (f:FuncId) (nt:Nat) (res:List ZhX) (c0 cA cB:Zp):Prop where
 ex:∃ fn t e ty id x0 xA xB g3 g4,P.funcs[f]?=some fn∧(fn.name == "runtime.NumGoroutine")=false∧fn.ntmps=nt∧Qh (cRes P) fn.results.toList=some res ∧
  fn.body=some (.seq x0 (.seq (.seq (.region id #[g3,g4] false) (.cond (.tmp 4) xA .skip)) xB))∧Y1 P nt x0=some (XF c0)∧Y1 P nt xA=some (XF cA)∧Y1 P nt xB=some (XF cB) ∧
  g3.op=.move (.tmp 0)∧g3.dst=some 3∧g3.guard=none∧g4.op=.binOp .eql t (.tmp 3) (.const (.slice none 0 0)) ty∧g4.dst=some 4∧g4.guard=none∧Xr P t=some e
theorem ZiA {C:Orc} {M:Zj} (hC:Z6 P C) (hB:Yb C) {f:FuncId} {res:List ZhX} {c0 cA cB:Zp} (hf:Znb P f nt res c0 cA cB) (hD:Ym P C M nt) (hnt:4<nt)
  {N:Nat} {xs:List D} {r:AV} {hs:List Zi} {st1:St} (h0:Zw C M N c0 { sl:=[(0,.d (.sl xs))],hp:=[],nx:=0,m:=0 }=some (.normal,st1)) (hx:gs st1.sl 0=.d (.sl xs)) (hm:st1.m=0)
  (hrun:∀ b,(b=true→xs=[])→WU 0 res (Zw C M N (.seq (.cond (.t 4) cA .skip) cB) { sl:=Zl (Zl st1.sl (some 3) (.d (.sl xs))) (some 4) (.d (.bool b)),hp:=st1.hp,nx:=st1.nx+128,m:=0 })=some (r,hs)):Zgg P f [.d (.sl xs)] [] r hs:=by
 obtain⟨fn,t,e,ty,id,x0,xA,xB,g3,g4,hfn,hname,hntm,hres,hbody,e0,eA,eB,o3,d3,u3,o4,d4,u4,he⟩:=hf.ex
 subst hntm
 refine⟨⟨fn,hfn,hname,by rw[hbody];rfl⟩,fun F A I Γ args w hpre=>?_⟩
 refine calls_of_wp hfn hbody ?_
 have hlen:args.length=1:=hpre.args.length.symm
 have hS:Sim fn.ntmps F A I Γ (V6 0) [(0,.d (.sl xs))] [] { tmps:=args.toArray++Array.replicate (fn.ntmps-args.toArray.size) undef,defers:=[] } w:=by
  refine { nt:=by simp;omega,dfr:=rfl,slots:=(fun t=>?_),objs:=(fun id o hl=>by cases hl),inj:=(fun i j o o' b hi=>by cases hi),bound:=hpre.bound,fresh:=hpre.fresh,own:=hpre.own,names:=fun id hid=>hpre.names id (by simp),glob:=hpre.glob }
  by_cases ht:t=0
  ·subst ht
   obtain⟨v,h1,h2⟩:=hpre.args.get 0 (.d (.sl xs)) rfl
   have h3:(args.toArray++Array.replicate (fn.ntmps-args.toArray.size) undef).getD 0 undef=v:=by
    have hlt:=(List.getElem?_eq_some_iff.1 h1).1
    have h4:=List.getElem?_eq_getElem hlt
    rw[h1] at h4
    simp[Array.getElem?_append,hlt]
    exact(Option.some.inj h4).symm
   rw[h3]
   exact h2
  ·have:gs [(0,AV.d (.sl xs))] t=.junk:=by
    simp only[gs,lkp]
    rw[if_neg (fun e=>ht e.symm)];rfl
   rw[this];exact trivial
 have hc:ZaR Γ Γ []:=fun k b hk=>by
  rw[hpre.names k (by simp)] at hk;cases hk
 refine wp_seq (ZaS (F:=F) (A:=A) (Γ0:=Γ) hC hB hD c0 x0 e0 h0 hS hc (fun k _=>hpre.names k (by simp)) fun a1 w1 hp=>?_)
 obtain⟨I1,Γ1,b1,b2,b3,b4,b5⟩:=hp
 refine wp_seq (wp_seq (wp_region ?_))
 have hr2:List.range (#[g3,g4]:Array Oper).size=[0,1]:=rfl
 rw[hr2]
 have dk:∀ d:Nat,d<5→QG fn.ntmps (some d)=true:=fun d hd=>by simp[QG];omega
 have p3:Xn P Γ1 I1 g3 a1 w1 { eff := { val:=.d (.sl xs) },gone:=[] }:=by
  have:=Zex (P:=P) (Γ:=Γ1) (I:=I1) (w:=w1) (a:=a1) (sl:=st1.sl) (o:=g3) (x:=.tmp 0) (y:=.t 0) (.inl o3) b5.slOK rfl (ce := { eff := { val:=.d (.sl xs) },gone:=[] }) (by simp[evO,hx,Ql])
  exact this
 have q3:=(p3.opOK b5 (base:=st1.nx) (ZeE _) (by rw[d3];exact dk 3 (by omega))).opWp
 have gu:∀ (o:Oper),o.guard=none→∀ (y:Nat→Option Bool),Region.wanted o y=true:=fun o ho y=>by unfold Region.wanted;rw[ho]
 have i0:(#[g3,g4]:Array Oper)[0]?=some g3:=rfl
 have i1:(#[g3,g4]:Array Oper)[1]?=some g4:=rfl
 simp only[wpOps,i0,i1,gu g3 u3,gu g4 u4,if_true]
 refine .inl (q3 _ _ fun u2 w2 hp2=>?_)
 obtain⟨I2,Γ2,c1,c2,c3,c4,c5⟩:=hp2
 have c5':=c5.more ZeF
 rw[d3] at c5'
 have hx3:gs (Zl st1.sl (some 3) (.d (.sl xs))) 3=.d (.sl xs):=by rw[Qa,if_pos rfl]
 obtain⟨b,hbx,p4⟩:=Zmj (P:=P) c5'.slOK o4 (x':=.t 3) rfl (Qy he) (xs:=xs) hx3
 have q4:=(p4.opOK c5' (base:=st1.nx+64) (ZeE _) (by rw[d4];exact dk 4 (by omega))).opWp
 rw[d3]
 refine .inl (q4 _ _ fun u4 w4 hp4=>?_)
 obtain⟨I4,Γ4,f1,f2,f3,f4,f5⟩:=hp4
 have f5':=f5.more ZeF
 rw[d4] at f5'
 have hSb:Sim fn.ntmps F A I4 Γ4 (V6 (st1.nx+128)) (Zl (Zl st1.sl (some 3) (.d (.sl xs))) (some 4) (.d (.bool b))) st1.hp _ w4:=f5'
 rw[d4]
 have hcb:ZaR Γ Γ4 st1.hp:=fun k b hk=>by rw[hpre.names k (by simp)] at hk;cases hk
 have hk:ZF I I4 w w4:=(b2.trans c2).trans f2
 have hsub:∀ b,I4 b→I b∨F b:=fun b hb=>(f3 b hb).elim (fun h=>(c3 b h).elim (b3 b) .inr) .inr
 have hfr:Fr F w w4:=(b4.trans c4).trans f4
 have hrb:=hrun b hbx
 simp only[Zw] at hrb
 have fin:∀ (ex:Ex) (st' : St) (a' : Act) (w' : World),(ex=.normal∨ex=.ret)→WU 0 res (some (ex,st'))=some (r,hs)→V8 fn.ntmps F A Γ I w st' a' w'→a'.defers=[]∧∃ v,(results fn a'.tmps).run P w'=.ok v w'∧∃ v2 I' Γ',Ending.returned v=.returned v2∧ZnH F A I Γ w hs r I' Γ' v2 w':=by
  intro ex st' a' w' hex hres' hp
  have hres'' : (bnd (Qh (ZfE st') res) fun vs=>some (XX 0 st'.hp (W7 vs)))=some (r,hs):=by
   rcases hex with rfl | rfl<;>simpa [WU] using hres'
  obtain⟨I',Γ',b1,b2,b3,b4,b5⟩:=hp
  obtain⟨vs,hvs,hres''⟩:=Za hres''
  obtain⟨us,hus,hrep⟩:=ZbE b5 hres hvs
  refine⟨b5.dfr,(if h:us.toArray.size=1 then us.toArray[0] else .tuple us.toArray),?_,_,I',WW st'.hp (Qj st'.hp (QI st'.hp) (Zs (W7 vs)++Yv st'.hp (List.range 0)) (List.range 0)) Γ',rfl,?_⟩
  ·unfold results
   rw[Sem.run_bind,Array.mapM_eq_mapM_toList,Sem.run_map]
   exact congrArg (fun r:Result (List Value)=>(r.andThen fun a w'=>Result.ok a.toArray w').andThen fun a w'=>Sem.run P (pure (if h:a.size=1 then a[0] else Value.tuple a)) w') hus
  ·have hnd:=(WK st'.hp (QI st'.hp) (Zs (W7 vs)++Yv st'.hp (List.range 0)) (List.range 0) List.nodup_range).1
   obtain⟨t1,t2,t3⟩:=ZmJ b5 hnd
   simp only[XX,Option.some.injEq,Prod.mk.injEq] at hres''
   obtain⟨rfl,rfl⟩:=hres''
   exact { boxes:=(fun id b hg=>by rw[hpre.names id (by simp)] at hg;cases hg),keeps:=b2,sub:=b3,fr:=b4,res:=Zhe _ (Znn hrep),objs:=t1,inj:=t2,bound:=b5.bound,names:=fun id hid=>t3 id (by simpa [U9] using hid) }
 cases hcd:Zw C M N (.cond (.t 4) cA .skip) { sl:=Zl (Zl st1.sl (some 3) (.d (.sl xs))) (some 4) (.d (.bool b)),hp:=st1.hp,nx:=st1.nx+128,m:=0 } with
 | none=>simp only[Zw] at hcd;rw[hcd] at hrb;simp[andThen,WU] at hrb
 | some q=>
  obtain⟨e1,s1⟩:=q
  have hcd':=hcd
  simp only[Zw] at hcd'
  rw[hcd'] at hrb
  have hcx:Y1 P fn.ntmps (.cond (.tmp 4) xA .skip)=some (XF (.cond (.t 4) cA .skip)):=by
   simp only[Y1,ZL,Zd,eA,XF]
  refine ZaS (F:=F) (A:=A) (Γ0:=Γ) hC hB hD (.cond (.t 4) cA .skip) (.cond (.tmp 4) xA .skip) hcx hcd hSb hcb (fun k _=>hpre.names k (by simp)) fun a5 w5 hp5=>?_
  cases e1 with
  | normal=>
   simp only[andThen] at hrb
   cases hcB:Zw C M N cB s1 with
   | none=>rw[hcB] at hrb;simp[WU] at hrb
   | some q2=>
    obtain⟨e2,s2⟩:=q2
    rw[hcB] at hrb
    obtain⟨I5,Γ5,g1,g2,g3',g4',g5⟩:=hp5
    have hcp:V8 fn.ntmps F A Γ I4 w4 s1 a5 w5:=⟨I5,Γ5,g1,g2,g3',g4',g5⟩
    refine ZaS (F:=F) (A:=A) (Γ0:=Γ) hC hB hD cB xB eB hcB g5 g1 (fun k _=>hpre.names k (by simp)) fun a6 w6 hp6=>?_
    have hp7:=(hp6.step g2 g3' g4').step hk hsub hfr
    cases e2 with
    | normal=>exact fin .normal s2 a6 w6 (.inl rfl) hrb hp7
    | ret=>exact fin .ret s2 a6 w6 (.inr rfl) hrb hp7
    | exit id=>simp[WU] at hrb
  | ret=>
   simp only[andThen] at hrb
   exact fin .ret s1 a5 w5 (.inr rfl) hrb (hp5.step hk hsub hfr)
  | exit id=>simp[andThen,WU] at hrb
end
end Go.Abs
