/- Own text. -/
import Derived.Test.YtighjmleicikhaaAbsDraw5
import Derived.Test.YtighjmleicikhaaAbsEval
set_option linter.unusedVariables false
set_option linter.unusedSimpArgs false
namespace Go.Abs
open Go
section
variable {P:Program} {nt:Nat} {U:Nat→Prop} {F A I:Nat→Prop} {Γ:Gh} {sl:Sl} {hp:Hp} {a:Act} {w:World}
theorem ZiJ {t e:TypeId} (h:P.underlying t=some (.slice e)) (ad:Option Addr) (n c:Nat):(binOp .eql t (.slice ad n c) (.slice none 0 0)).run P w=.ok (.bool ad.isNone) w:=by
 have h1:binOp .eql t (.slice ad n c) (.slice none 0 0)=(do let r ← Op.equalIn (9999+1) t (.slice ad n c) (.slice none 0 0);pure (.bool r)):=rfl;rw[h1,Sem.run_bind];have h2:(Op.equalIn (9999+1) t (.slice ad n c) (.slice none 0 0)).run P w=.ok ad.isNone w:=by
  rw[Op.equalIn];rw[Sem.run_bind,run_underlying h];cases ad<;>rfl
 rw[h2];rfl
theorem ZjF (hs:V7 Γ w I sl a) {o:Oper} {t e ty:TypeId} {x:Operand} {x' : Opd} (ho:o.op=.binOp .eql t x (.const (.slice none 0 0)) ty) (hx:ZA x=some x') (ht:P.underlying t=some (.slice e)) {xs:List D} (hv:evO sl x'=.d (.sl xs)) :
  ∃ b,(b=true→xs=[])∧QO P Γ I o a w { eff := { val:=.d (.bool b) },gone:=[] }:=by
 have h1:=hs.ev hx;rw[hv] at h1;obtain⟨ad,c,hh,aa⟩:∃ ad c,a.eval x=.slice ad xs.length c∧(ad=none→xs=[]):=by
  obtain⟨ad,c,h2,_,h3⟩:=QF.1 h1;refine⟨ad,c,by simpa using h2,fun hn=>?_⟩;rcases h3 with h3 | ⟨b,o,sz,h3,_⟩
  ·exact h3
  ·rw[hn] at h3;cases h3
 refine⟨ad.isNone,(fun hb=>aa (by simpa using hb)),.bool ad.isNone,.d (.bool ad.isNone),.inl ?_,rfl,QF.2 (We _)⟩;have hc:a.eval (.const (.slice none 0 0))=.slice none 0 0:=rfl;simp only[execOp,ho];rw[hc,hh];simp[Zdk (P:=P) (w:=w) (op:=.eql) (t:=t) (x:=x) (y:=.const (.slice none 0 0)) (u:=.slice ad xs.length c) (v:=.slice none 0 0) (by simp) (by simp),ZiJ ht]
def cL:Code→Code
 | .seq a _=>a
 | c=>c
def cR:Code→Code
 | .seq _ b=>b
 | c=>c
def cThen:Code→Code
 | .cond _ a _=>a
 | c=>c
def rId:Code→Nat
 | .region i _ _=>i
 | _=>0
def rOp (k:Nat):Code→Oper
 | .region _ ops _=>(ops[k]?).getD default
 | _=>default
def eqTy:Op→TypeId
 | .binOp _ t _ _ _=>t
 | _=>0
def eqTy2:Op→TypeId
 | .binOp _ _ _ _ t=>t
 | _=>0
def bodyOf (fn:Func):Code:=match fn.body with
 | some c=>c
 | none=>.skip
structure ZkJ (P:Program) (f:FuncId) (nt:Nat) (res:List ZfN) (c0 cA cB:Zy):Prop where
 ex:∃ fn t e ty id x0 xA xB g3 g4,P.funcs[f]?=some fn∧(fn.name == "runtime.NumGoroutine")=false∧fn.ntmps=nt∧ZY (cRes P) fn.results.toList=some res ∧
  fn.body=some (.seq x0 (.seq (.seq (.region id #[g3,g4] false) (.cond (.tmp 4) xA .skip)) xB))∧Yh P nt x0=some (Q4 c0)∧Yh P nt xA=some (Q4 cA)∧Yh P nt xB=some (Q4 cB) ∧
  g3.op=.move (.tmp 0)∧g3.dst=some 3∧g3.guard=none∧g4.op=.binOp .eql t (.tmp 3) (.const (.slice none 0 0)) ty∧g4.dst=some 4∧g4.guard=none∧QN P t=some e
theorem Zgr {C:Orc} {M:Zf} (hC:Z4 P C) {f:FuncId} {res:List ZfN} {c0 cA cB:Zy} (hf:ZkJ P f nt res c0 cA cB) (hD:Yb P C M nt) (bj:4<nt)
  {N:Nat} {xs:List D} {r:AV} {hs:List Zg} {st1:St} (h0:Zr C M N c0 { sl:=[(0,.d (.sl xs))],hp:=[],nx:=0,m:=0 }=some (.normal,st1)) (hx:gs st1.sl 0=.d (.sl xs)) (hm:st1.m=0)
  (al:∀ b,(b=true→xs=[])→Ub 0 res (Zr C M N (.seq (.cond (.t 4) cA .skip) cB) { sl:=Zh (Zh st1.sl (some 3) (.d (.sl xs))) (some 4) (.d (.bool b)),hp:=st1.hp,nx:=st1.nx+128,m:=0 })=some (r,hs)):ZdV P f [.d (.sl xs)] [] r hs:=by
 obtain⟨fn,t,e,ty,id,x0,xA,xB,g3,g4,ar,ag,am,an,af,e0,eA,eB,o3,d3,u3,o4,d4,u4,he⟩:=hf.ex;subst am;refine⟨⟨fn,ar,ag,by rw[af];rfl⟩,fun F A I Γ args w aa=>?_⟩;refine calls_of_wp ar af ?_;have a3:args.length=1:=aa.args.length.symm;have hS:Sim fn.ntmps F A I Γ (Vc 0) [(0,.d (.sl xs))] [] { tmps:=args.toArray++Array.replicate (fn.ntmps-args.toArray.size) undef,defers:=[] } w:=by
  refine { nt:=by simp;omega,dfr:=rfl,slots:=(fun t=>?_),objs:=(fun id o hl=>by cases hl),inj:=(fun i j o o' b hi=>by cases hi),bound:=aa.bound,fresh:=aa.fresh,own:=aa.own,names:=fun id au=>aa.names id (by simp),glob:=aa.glob };by_cases ht:t=0
  ·subst ht;obtain⟨v,h1,h2⟩:=aa.args.get 0 (.d (.sl xs)) rfl;have h3:(args.toArray++Array.replicate (fn.ntmps-args.toArray.size) undef).getD 0 undef=v:=by
    have av:=(Kb.1 h1).1;have h4:=Kj av;rw[h1] at h4;simp[Array.getElem?_append,av];exact(Option.some.inj h4).symm
   rw[h3];exact h2
  ·have:gs [(0,AV.d (.sl xs))] t=.junk:=by
    simp only[gs,lkp];rw[Kn (fun e=>ht e.symm)];rfl
   rw[this];exact trivial
 have hc:Uw Γ Γ []:=ZN.refl Γ;have ak:∀ m,m=0→Ze2 Γ m:=fun m hm=>⟨fun k _=>aa.names k (by simp),fun k hk=>by omega⟩
 refine wp_seq (U4 (F:=F) (A:=A) (Γ0:=Γ) hC hD c0 x0 e0 h0 hS hc (ak _ rfl) fun a1 w1 hp=>?_);obtain⟨I1,Γ1,b1,b2,b3,b4,b5⟩:=hp;refine wp_seq (wp_seq (wp_region ?_));have a4:List.range (#[g3,g4]:Array Oper).size=[0,1]:=rfl;rw[a4];have dk:∀ d:Nat,d<5→Qa fn.ntmps (some d)=true:=fun d hd=>by simp[Qa];omega
 have p3:QO P Γ1 I1 g3 a1 w1 { eff := { val:=.d (.sl xs) },gone:=[] }:=by
  have:=Zcs (P:=P) (Γ:=Γ1) (I:=I1) (w:=w1) (a:=a1) (sl:=st1.sl) (o:=g3) (x:=.tmp 0) (y:=.t 0) (.inl o3) b5.slOK rfl (ce := { eff := { val:=.d (.sl xs) },gone:=[] }) (by simp[evO,hx,Z7]);exact this
 have q3:=(p3.opOK b5 (base:=st1.nx) (ZcB _) (by rw[d3];exact dk 3 (by omega))).opWp;have gu:∀ (o:Oper),o.guard=none→∀ (y:Nat→Option Bool),Region.wanted o y=true:=fun o ho y=>by unfold Region.wanted;rw[ho]
 have i0:(#[g3,g4]:Array Oper)[0]?=some g3:=rfl;have i1:(#[g3,g4]:Array Oper)[1]?=some g4:=rfl;simp only[wpOps,i0,i1,gu g3 u3,gu g4 u4,Ki];refine .inl (q3 _ _ fun u2 w2 a7=>?_);obtain⟨I2,Γ2,c1,c2,c3,c4,c5⟩:=a7;have ao:=c5.more ZcC;rw[d3] at ao;have a8:gs (Zh st1.sl (some 3) (.d (.sl xs))) 3=.d (.sl xs):=by rw[ZX,Kw rfl]
 obtain⟨b,a9,p4⟩:=ZjF (P:=P) ao.slOK o4 (x':=.t 3) rfl (Qd he) (xs:=xs) a8;have q4:=(p4.opOK ao (base:=st1.nx+64) (ZcB _) (by rw[d4];exact dk 4 (by omega))).opWp;rw[d3];refine .inl (q4 _ _ fun u4 w4 ba=>?_);obtain⟨I4,Γ4,f1,f2,f3,f4,f5⟩:=ba;have aw:=f5.more ZcC;rw[d4] at aw;have bb:Sim fn.ntmps F A I4 Γ4 (Vc (st1.nx+128)) (Zh (Zh st1.sl (some 3) (.d (.sl xs))) (some 4) (.d (.bool b))) st1.hp _ w4:=aw;rw[d4];have bc:Uw Γ Γ4 st1.hp:=fun k b hk=>by rw[aa.names k (by simp)] at hk;cases hk
 have hk:Zw I I4 w w4:=(b2.trans c2).trans f2;have ah:∀ b,I4 b→I b∨F b:=fun b hb=>(f3 b hb).elim (fun h=>(c3 b h).elim (b3 b) .inr) .inr;have ax:Fr F w w4:=(b4.trans c4).trans f4;have ad:=al b a9;simp only[Zr] at ad;have ap:∀ (ex:Ex) (ae : St) (a' : Act) (w' : World),(ex=.normal∨ex=.ret)→Ub 0 res (some (ex,ae))=some (r,hs)→Vh fn.ntmps F A Γ I w ae a' w'→a'.defers=[]∧∃ v,(results fn a'.tmps).run P w'=.ok v w'∧∃ v2 I' Γ',Ending.returned v=.returned v2∧Back F A I Γ w hs r I' Γ' v2 w':=by
  intro ex ae a' w' bd ai hp;have ab : (bnd (ZY (ZeZ ae) res) fun vs=>some (X3 0 ae.hp (WA vs)))=some (r,hs):=by
   rcases bd with rfl | rfl<;>simpa [Ub] using ai
  obtain⟨I',Γ',b1,b2,b3,b4,b5⟩:=hp;obtain⟨vs,be,ab⟩:=Za ab;obtain⟨us,bf,aq⟩:=JN b5 an be;refine⟨b5.dfr,(if h:us.toArray.size=1 then us.toArray[0] else .tuple us.toArray),?_,_,I',WC ae.hp (Qh ae.hp (QH ae.hp) (Zj (WA vs)++Ya ae.hp (List.range 0)) (List.range 0)) Γ',rfl,?_⟩
  ·unfold results;rw[Sem.run_bind,Array.mapM_eq_mapM_toList,Sem.run_map];exact congrArg (fun r:Result (List Value)=>(r.andThen fun a w'=>Result.ok a.toArray w').andThen fun a w'=>Sem.run P (pure (if h:a.size=1 then a[0] else Value.tuple a)) w') bf
  ·have bg:=(YS ae.hp (QH ae.hp) (Zj (WA vs)++Ya ae.hp (List.range 0)) (List.range 0) LP).1;obtain⟨t1,t2,t3⟩:=Zj2 b5 bg (JM b5 b1 (ak 0 rfl));simp only[X3,Option.some.injEq,Prod.mk.injEq] at ab;obtain⟨rfl,rfl⟩:=ab;exact { heads:=(fun id b hg=>by rw[aa.names id (by simp)] at hg;cases hg),keeps:=b2,sub:=b3,fr:=b4,res:=Ze3 _ (ZkO aq),objs:=t1,inj:=t2,bound:=b5.bound,names:=fun id au=>t3 id (by simpa [WO] using au) }
 cases hcd:Zr C M N (.cond (.t 4) cA .skip) { sl:=Zh (Zh st1.sl (some 3) (.d (.sl xs))) (some 4) (.d (.bool b)),hp:=st1.hp,nx:=st1.nx+128,m:=0 } with
 | none=>simp only[Zr] at hcd;rw[hcd] at ad;simp[andThen,Ub] at ad
 | some q=>
  obtain⟨e1,s1⟩:=q;have aj:=hcd;simp only[Zr] at aj;rw[aj] at ad;have bh:Yh P fn.ntmps (.cond (.tmp 4) xA .skip)=some (Q4 (.cond (.t 4) cA .skip)):=by
   simp only[Yh,ZA,Zc,eA,Q4]
  refine U4 (F:=F) (A:=A) (Γ0:=Γ) hC hD (.cond (.t 4) cA .skip) (.cond (.tmp 4) xA .skip) bh hcd bb bc (ak _ rfl) fun a5 w5 ay=>?_;cases e1 with
  | normal=>
   simp only[andThen] at ad;cases hcB:Zr C M N cB s1 with
   | none=>rw[hcB] at ad;simp[Ub] at ad
   | some q2=>
    obtain⟨e2,s2⟩:=q2;rw[hcB] at ad;obtain⟨I5,Γ5,g1,g2,az,a0,g5⟩:=ay;have bk:Vh fn.ntmps F A Γ I4 w4 s1 a5 w5:=⟨I5,Γ5,g1,g2,az,a0,g5⟩
    refine U4 (F:=F) (A:=A) (Γ0:=Γ) hC hD cB xB eB hcB g5 g1 (ak _ (Zj3 _ _ _ _ hcd)) fun a6 w6 bi=>?_;have a2:=(bi.step g2 az a0).step hk ah ax;cases e2 with
    | normal=>exact ap .normal s2 a6 w6 (.inl rfl) ad a2
    | ret=>exact ap .ret s2 a6 w6 (.inr rfl) ad a2
    | exit id=>simp[Ub] at ad
  | ret=>
   simp only[andThen] at ad;exact ap .ret s1 a5 w5 (.inr rfl) ad (ay.step hk ah ax)
  | exit id=>simp[andThen,Ub] at ad
end
end Go.Abs
set_option linter.unusedVariables false
set_option linter.unusedSimpArgs false
set_option linter.unusedSimpArgs false
namespace Go.Abs
open Go Go.Abs.E
def Zcr (P:Program) (f:FuncId) (p:List AV→List Zg→Option (AV×List Zg)):Prop:=
 ∀ as h r hs,p as h=some (r,hs)→ZdV P f as h r hs
open Classical in
noncomputable def ZmQ (s b:Nat):List AV→List Zg→Option (AV×List Zg)
 | [.d (.sl xs)],[]=>if uni s xs∧Qn xs∧xs.length*b≤ZG∧xs.length≤ZG then some (.own 0,[.row s xs true false]) else none
 | _,_=>none
def ZjG (s:Nat):Zy:=.keep [0] (.region 1 none [⟨some 2,none,.assign (some s) (.v .nil),false⟩])
def ZeO (s:Nat):Zy:=.seq (.keep [2] (.region 1 none [⟨some 2,none,.assign (some s) (.v .nil),false⟩])) .ret
def ZeP (s b:Nat):Zy:=.seq (.keep [2] (.region 4 none [⟨some 5,none,.buildSl s [],true⟩,⟨some 6,none,.move (.t 0),false⟩,⟨some 7,none,.append s b false true (.t 5) (.t 6),true⟩,⟨some 2,none,.assign (some s) (.t 7),false⟩])) .ret
theorem ZmR {X:Fns} {M:Zf} {c:Zy} {st:St} {Q:Ex→St→Prop} (h:W X M c st Q):∃ e st',Z5 X M c st=some (e,st')∧Q e st':=by
 unfold W at h;cases hv:Z5 X M c st with
 | none=>rw[hv] at h;exact h.elim
 | some r=>rw[hv] at h;exact⟨r.1,r.2,rfl,h⟩
theorem clone_ok {P:Program} {f:FuncId} {s b:Nat} (hf:ZkJ P f 8 [.tmp 2] (ZjG s) (ZeO s) (ZeP s b)) (hD:∀ C M nt,Z4 P C→Yb P C M nt):Zcr P f (ZmQ s b):=by
 intro as h r hs hp;unfold ZmQ at hp;split at hp
 ·rename_i xs;split at hp
  ·rename_i hc;obtain⟨c1,c2,c3,c4⟩:=hc;cases hp
   let X:Fns:=fun _=>none
   let M:Zf:=fun _ _=>false
   have hX:Zak P X M:=⟨(fun f cf h=>by cases h),(fun f p h=>by cases h)⟩
   have hS:=U5 hX (fun C nt hC=>hD C M nt hC);have w0:W X M (ZjG s) { sl:=[(0,.d (.sl xs))],hp:=[],nx:=0,m:=0 } (fun e st=>e=.normal∧st = { sl:=[(0,.d (.sl xs))],hp:=[(0,.row s [] true false)],nx:=64,m:=0 }):=by
    unfold ZjG;simp +contextual -implicitDefEqProofs (maxSteps:=10000000) only[go_sem,seval,↓gA,↓gB,↓gC,↓gD,↓gE,↓gF,↓gG]
   have w1:∀ b',(b'=true→xs=[])→W X M (.seq (.cond (.t 4) (ZeO s) .skip) (ZeP s b)) { sl:=Zh (Zh [(0,.d (.sl xs))] (some 3) (.d (.sl xs))) (some 4) (.d (.bool b')),hp:=[(0,.row s [] true false)],nx:=64+128,m:=0 } (fun e st=>Ub 0 [.tmp 2] (some (e,st))=some (.own 0,[.row s xs true false])):=by
    intro b' aa;cases b' with
    | true=>
     have:=aa rfl;subst this;simp +contextual -implicitDefEqProofs (maxSteps:=10000000) only[ZeO,ZeP,go_sem,seval,↓gA,↓gB,↓gC,↓gD,↓gE,↓gF,↓gG];rfl
    | false=>
     simp +contextual -implicitDefEqProofs (maxSteps:=10000000) only[ZeO,ZeP,c1,c2,c3,c4,go_sem,seval,↓gA,↓gB,↓gC,↓gD,↓gE,↓gF,↓gG];exact⟨fun _=>rfl,fun h=>h ⟨c3,c4⟩⟩
   obtain⟨e0,st0,h0,rfl,rfl⟩:=ZmR w0;obtain⟨n0,h0⟩:=Y5 X M h0;have pick:∀ b',(b'=true→xs=[])→∃ n,∀ m,n≤m→Ub 0 [.tmp 2] (Zr (ZR X M m) M m (.seq (.cond (.t 4) (ZeO s) .skip) (ZeP s b)) { sl:=Zh (Zh [(0,.d (.sl xs))] (some 3) (.d (.sl xs))) (some 4) (.d (.bool b')),hp:=[(0,.row s [] true false)],nx:=64+128,m:=0 })=some (.own 0,[.row s xs true false]):=by
    intro b' aa;obtain⟨e1,st1,h1,h2⟩:=ZmR (w1 b' aa);obtain⟨n,hn⟩:=Y5 X M h1;exact⟨n,fun m hm=>by rw[hn m hm];exact h2⟩
   obtain⟨nf,ab⟩:=pick false (by simp);by_cases hx:xs=[]
   ·obtain⟨nt,ad⟩:=pick true fun _=>hx;have m1:n0≤n0+nf+nt:=by omega
    exact Zgr (hS (n0+nf+nt)) hf (hD _ M 8 (hS _)) (by omega) (h0 _ m1) rfl rfl fun b' aa=>by
     cases b' with
     | true=>exact ad _ (by omega)
     | false=>exact ab _ (by omega)
   ·have m1:n0≤n0+nf:=by omega
    exact Zgr (hS (n0+nf)) hf (hD _ M 8 (hS _)) (by omega) (h0 _ m1) rfl rfl fun b' aa=>by
     cases b' with
     | true=>exact absurd (aa rfl) hx
     | false=>exact ab _ (by omega)
  ·cases hp
 ·cases hp
end Go.Abs
