/- Own text. -/
import Derived.Test.YtnachaiejoflhaaAbsDraw5
set_option linter.unusedVariables false
set_option linter.unusedSimpArgs false
namespace Go.Abs
open Go
section
variable {P:Program} {nt:Nat} {U:Nat→Prop} {F A I:Nat→Prop} {Γ:Gh} {sl:Sl} {hp:Hp} {a:Act} {w:World}
theorem ZlU {t e:TypeId} (h:P.underlying t=some (.slice e)) (ad:Option Addr) (n c:Nat):(binOp .eql t (.slice ad n c) (.slice none 0 0)).run P w=.ok (.bool ad.isNone) w:=by
 have h1:binOp .eql t (.slice ad n c) (.slice none 0 0)=(do let r ← Op.equalIn (9999+1) t (.slice ad n c) (.slice none 0 0);pure (.bool r)):=rfl;rw[h1,Sem.run_bind];have h2:(Op.equalIn (9999+1) t (.slice ad n c) (.slice none 0 0)).run P w=.ok ad.isNone w:=by
  rw[Op.equalIn];rw[Sem.run_bind,run_underlying h];cases ad<;>rfl
 rw[h2];rfl
theorem Znw (hs:Ue Γ w I sl a) {o:Oper} {t e ty:TypeId} {x:Operand} {x' : Opd} (ho:o.op=.binOp .eql t x (.const (.slice none 0 0)) ty) (hx:ZJ x=some x') (ht:P.underlying t=some (.slice e)) {xs:List D} (hv:evO sl x'=.d (.sl xs)) :
  ∃ b,(b=true→xs=[])∧Q6 P Γ I o a w { eff := { val:=.d (.bool b) },gone:=[] }:=by
 have h1:=hs.ev hx;rw[hv] at h1;obtain⟨ad,c,hh,aa⟩:∃ ad c,a.eval x=.slice ad xs.length c∧(ad=none→xs=[]):=by
  obtain⟨ad,c,h2,_,h3⟩:=QM.1 h1;refine⟨ad,c,by simpa using h2,fun hn=>?_⟩;rcases h3 with h3 | ⟨b,o,sz,h3,_⟩
  ·exact h3
  ·rw[hn] at h3;cases h3
 refine⟨ad.isNone,(fun hb=>aa (by simpa using hb)),.bool ad.isNone,.d (.bool ad.isNone),.inl ?_,rfl,QM.2 (Up _)⟩;have hc:a.eval (.const (.slice none 0 0))=.slice none 0 0:=rfl;simp only[execOp,ho];rw[hc,hh];simp[ZfP (P:=P) (w:=w) (op:=.eql) (t:=t) (x:=x) (y:=.const (.slice none 0 0)) (u:=.slice ad xs.length c) (v:=.slice none 0 0) (by simp) (by simp),ZlU ht]
def cL:Code→Code
 | .seq a _=>a
 | c=>c
def cR:Code→Code
 | .seq _ b=>b
 | c=>c
def cThen:Code→Code
 | .cond _ a _=>a
 | c=>c
def rId:Code→Nat
 | .region i _ _=>i
 | _=>0
def rOp (k:Nat):Code→Oper
 | .region _ ops _=>(ops[k]?).getD default
 | _=>default
def eqTy:Op→TypeId
 | .binOp _ t _ _ _=>t
 | _=>0
def eqTy2:Op→TypeId
 | .binOp _ _ _ _ t=>t
 | _=>0
def bodyOf (fn:Func):Code:=match fn.body with
 | some c=>c
 | none=>.skip
structure Zox (P:Program) (f:FuncId) (nt:Nat) (res:List Ziw) (c0 cA cB:ZF):Prop where
 ex:∃ fn t e ty id x0 xA xB g3 g4,P.funcs[f]?=some fn∧(fn.name == "runtime.NumGoroutine")=false∧fn.ntmps=nt∧Qd (cRes P) fn.results.toList=some res ∧
  fn.body=some (.seq x0 (.seq (.seq (.region id #[g3,g4] false) (.cond (.tmp 4) xA .skip)) xB))∧YW P nt x0=some (Xn c0)∧YW P nt xA=some (Xn cA)∧YW P nt xB=some (Xn cB) ∧
  g3.op=.move (.tmp 0)∧g3.dst=some 3∧g3.guard=none∧g4.op=.binOp .eql t (.tmp 3) (.const (.slice none 0 0)) ty∧g4.dst=some 4∧g4.guard=none∧Q5 P t=some e
theorem ZjC {C:Orc} {M:Zh} (hC:Qe P C) {f:FuncId} {res:List Ziw} {c0 cA cB:ZF} (hf:Zox P f nt res c0 cA cB) (hD:YN P C M nt) (bk:4<nt)
  {N:Nat} {xs:List D} {r:AV} {hs:List Zj} {ad:St} (h0:Zx C M N c0 { sl:=[(0,.d (.sl xs))],hp:=[],nx:=0,m:=0 }=some (.normal,ad)) (hx:gs ad.sl 0=.d (.sl xs)) (hm:ad.m=0)
  (am:∀ b,(b=true→xs=[])→JG 0 res (Zx C M N (.seq (.cond (.t 4) cA .skip) cB) { sl:=Zk (Zk ad.sl (some 3) (.d (.sl xs))) (some 4) (.d (.bool b)),hp:=ad.hp,nx:=ad.nx+128,m:=0 })=some (r,hs)):ZgC P f [.d (.sl xs)] [] r hs:=by
 obtain⟨fn,t,e,ty,id,x0,xA,xB,g3,g4,au,ah,an,ao,ag,e0,eA,eB,o3,d3,u3,o4,d4,u4,he⟩:=hf.ex;subst an;refine⟨⟨fn,au,ah,by rw[ag];rfl⟩,fun F A I Γ args w aa=>?_⟩;refine calls_of_wp au ag ?_;have a4:args.length=1:=aa.args.length.symm;have hS:Sim fn.ntmps F A I Γ (Wg 0) [(0,.d (.sl xs))] [] { tmps:=args.toArray++Array.replicate (fn.ntmps-args.toArray.size) undef,defers:=[] } w:=by
  refine { nt:=by simp;omega,dfr:=rfl,slots:=(fun t=>?_),objs:=(fun id o hl=>by cases hl),inj:=(fun i j o o' b hi=>by cases hi),bound:=aa.bound,fresh:=aa.fresh,own:=aa.own,names:=fun id av=>aa.names id (by simp),glob:=aa.glob };by_cases ht:t=0
  ·subst ht;obtain⟨v,h1,h2⟩:=aa.args.get 0 (.d (.sl xs)) rfl;have h3:(args.toArray++Array.replicate (fn.ntmps-args.toArray.size) undef).getD 0 undef=v:=by
    have aw:=(Kd.1 h1).1;have h4:=Kl aw;rw[h1] at h4;simp[Array.getElem?_append,aw];exact(Option.some.inj h4).symm
   rw[h3];exact h2
  ·have:gs [(0,AV.d (.sl xs))] t=.junk:=by
    simp only[gs,lkp];rw[Ko (fun e=>ht e.symm)];rfl
   rw[this];exact trivial
 have hc:J7 Γ Γ []:=ZX.refl Γ;have al:∀ m,m=0→ZhF Γ m:=fun m hm=>⟨fun k _=>aa.names k (by simp),fun k hk=>by omega⟩
 refine wp_seq (ZaM (F:=F) (A:=A) (Γ0:=Γ) hC hD c0 x0 e0 h0 hS hc (al _ rfl) fun a1 w1 hp=>?_);obtain⟨I1,Γ1,b1,b2,b3,b4,b5⟩:=hp;refine wp_seq (wp_seq (wp_region ?_));have a7:List.range (#[g3,g4]:Array Oper).size=[0,1]:=rfl;rw[a7];have dk:∀ d:Nat,d<5→Qv fn.ntmps (some d)=true:=fun d hd=>by simp[Qv];omega
 have p3:Q6 P Γ1 I1 g3 a1 w1 { eff := { val:=.d (.sl xs) },gone:=[] }:=by
  have:=ZeW (P:=P) (Γ:=Γ1) (I:=I1) (w:=w1) (a:=a1) (sl:=ad.sl) (o:=g3) (x:=.tmp 0) (y:=.t 0) (.inl o3) b5.slOK rfl (ce := { eff := { val:=.d (.sl xs) },gone:=[] }) (by simp[evO,hx,Qs]);exact this
 have q3:=(p3.opOK b5 (base:=ad.nx) (Ze4 _) (by rw[d3];exact dk 3 (by omega))).opWp;have gu:∀ (o:Oper),o.guard=none→∀ (y:Nat→Option Bool),Region.wanted o y=true:=fun o ho y=>by unfold Region.wanted;rw[ho]
 have i0:(#[g3,g4]:Array Oper)[0]?=some g3:=rfl;have i1:(#[g3,g4]:Array Oper)[1]?=some g4:=rfl;simp only[wpOps,i0,i1,gu g3 u3,gu g4 u4,Kj];refine .inl (q3 _ _ fun u2 w2 a8=>?_);obtain⟨I2,Γ2,c1,c2,c3,c4,c5⟩:=a8;have ap:=c5.more Ze5;rw[d3] at ap;have a9:gs (Zk ad.sl (some 3) (.d (.sl xs))) 3=.d (.sl xs):=by rw[Qb,Kt rfl]
 obtain⟨b,ba,p4⟩:=Znw (P:=P) ap.slOK o4 (x':=.t 3) rfl (Qw he) (xs:=xs) a9;have q4:=(p4.opOK ap (base:=ad.nx+64) (Ze4 _) (by rw[d4];exact dk 4 (by omega))).opWp;rw[d3];refine .inl (q4 _ _ fun u4 w4 bb=>?_);obtain⟨I4,Γ4,f1,f2,f3,f4,f5⟩:=bb;have ax:=f5.more Ze5;rw[d4] at ax;have bc:Sim fn.ntmps F A I4 Γ4 (Wg (ad.nx+128)) (Zk (Zk ad.sl (some 3) (.d (.sl xs))) (some 4) (.d (.bool b))) ad.hp _ w4:=ax;rw[d4];have bd:J7 Γ Γ4 ad.hp:=fun k b hk=>by rw[aa.names k (by simp)] at hk;cases hk
 have hk:ZE I I4 w w4:=(b2.trans c2).trans f2;have ai:∀ b,I4 b→I b∨F b:=fun b hb=>(f3 b hb).elim (fun h=>(c3 b h).elim (b3 b) .inr) .inr;have ay:Fr F w w4:=(b4.trans c4).trans f4;have ae:=am b ba;simp only[Zx] at ae;have aq:∀ (ex:Ex) (af : St) (a' : Act) (w' : World),(ex=.normal∨ex=.ret)→JG 0 res (some (ex,af))=some (r,hs)→Wk fn.ntmps F A Γ I w af a' w'→a'.defers=[]∧∃ v,(results fn a'.tmps).run P w'=.ok v w'∧∃ v2 I' Γ',Ending.returned v=.returned v2∧Back F A I Γ w hs r I' Γ' v2 w':=by
  intro ex af a' w' be aj hp;have ab : (bnd (Qd (ZhC af) res) fun vs=>some (Yx 0 af.hp (UP vs)))=some (r,hs):=by
   rcases be with rfl | rfl<;>simpa [JG] using aj
  obtain⟨I',Γ',b1,b2,b3,b4,b5⟩:=hp;obtain⟨vs,bf,ab⟩:=Za ab;obtain⟨us,bg,ar⟩:=ZbV b5 ao bf;refine⟨b5.dfr,(if h:us.toArray.size=1 then us.toArray[0] else .tuple us.toArray),?_,_,I',UR af.hp (Qz af.hp (QZ af.hp) (Zn (UP vs)++YM af.hp (List.range 0)) (List.range 0)) Γ',rfl,?_⟩
  ·unfold results;rw[Sem.run_bind,Array.mapM_eq_mapM_toList,Sem.run_map];exact congrArg (fun r:Result (List Value)=>(r.andThen fun a w'=>Result.ok a.toArray w').andThen fun a w'=>Sem.run P (pure (if h:a.size=1 then a[0] else Value.tuple a)) w') bg
  ·have bh:=(VH af.hp (QZ af.hp) (Zn (UP vs)++YM af.hp (List.range 0)) (List.range 0) LC).1;obtain⟨t1,t2,t3⟩:=ZnX b5 bh (ZbU b5 b1 (al 0 rfl));simp only[Yx,Option.some.injEq,Prod.mk.injEq] at ab;obtain⟨rfl,rfl⟩:=ab;exact { heads:=(fun id b hg=>by rw[aa.names id (by simp)] at hg;cases hg),keeps:=b2,sub:=b3,fr:=b4,res:=ZhG _ (ZoH ar),objs:=t1,inj:=t2,bound:=b5.bound,names:=fun id av=>t3 id (by simpa [Jd] using av) }
 cases hcd:Zx C M N (.cond (.t 4) cA .skip) { sl:=Zk (Zk ad.sl (some 3) (.d (.sl xs))) (some 4) (.d (.bool b)),hp:=ad.hp,nx:=ad.nx+128,m:=0 } with
 | none=>simp only[Zx] at hcd;rw[hcd] at ae;simp[andThen,JG] at ae
 | some q=>
  obtain⟨e1,s1⟩:=q;have ak:=hcd;simp only[Zx] at ak;rw[ak] at ae;have bi:YW P fn.ntmps (.cond (.tmp 4) xA .skip)=some (Xn (.cond (.t 4) cA .skip)):=by
   simp only[YW,ZJ,Zc,eA,Xn]
  refine ZaM (F:=F) (A:=A) (Γ0:=Γ) hC hD (.cond (.t 4) cA .skip) (.cond (.tmp 4) xA .skip) bi hcd bc bd (al _ rfl) fun a5 w5 az=>?_;cases e1 with
  | normal=>
   simp only[andThen] at ae;cases hcB:Zx C M N cB s1 with
   | none=>rw[hcB] at ae;simp[JG] at ae
   | some q2=>
    obtain⟨e2,s2⟩:=q2;rw[hcB] at ae;obtain⟨I5,Γ5,g1,g2,a0,a2,g5⟩:=az;have bl:Wk fn.ntmps F A Γ I4 w4 s1 a5 w5:=⟨I5,Γ5,g1,g2,a0,a2,g5⟩
    refine ZaM (F:=F) (A:=A) (Γ0:=Γ) hC hD cB xB eB hcB g5 g1 (al _ (ZnY _ _ _ _ hcd)) fun a6 w6 bj=>?_;have a3:=(bj.step g2 a0 a2).step hk ai ay;cases e2 with
    | normal=>exact aq .normal s2 a6 w6 (.inl rfl) ae a3
    | ret=>exact aq .ret s2 a6 w6 (.inr rfl) ae a3
    | exit id=>simp[JG] at ae
  | ret=>
   simp only[andThen] at ae;exact aq .ret s1 a5 w5 (.inr rfl) ae (az.step hk ai ay)
  | exit id=>simp[andThen,JG] at ae
end
end Go.Abs
