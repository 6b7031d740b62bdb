/- The abstract semantics: slices.Delete of one element,told by what it does. Own text. -/
import Derived.Test.YtkdjbefmiiibpaaGreatDoorAbsDraw5
import Derived.Test.YtkdjbefmiiibpaaGreatDoorAbsEval
import Derived.Test.YtkdjbefmiiibpaaGreatDoorAbsLib
set_option linter.unusedVariables false
set_option linter.unusedSimpArgs false
namespace Go.Abs
open Go
section
variable {P:Program} {nt:Nat} {U:Nat→Prop} {F A I:Nat→Prop} {Γ:Gh} {sl:Sl} {hp:Hp} {a:Act} {w:World}
theorem Zuj {t e:TypeId} (h:P.underlying t=some (.slice e)) (ad:Option Addr) (n c:Nat):(binOp .eql t (.slice ad n c) (.slice none 0 0)).run P w=.ok (.bool ad.isNone) w:=by
 have h1:binOp .eql t (.slice ad n c) (.slice none 0 0)=(do let r ← Op.equalIn (9999+1) t (.slice ad n c) (.slice none 0 0);pure (.bool r)):=rfl
 rw[h1,Sem.run_bind]
 have h2:(Op.equalIn (9999+1) t (.slice ad n c) (.slice none 0 0)).run P w=.ok ad.isNone w:=by
  rw[Op.equalIn]
  rw[Sem.run_bind,run_underlying h]
  cases ad<;>rfl
 rw[h2];rfl
theorem Zwd (hs:Zdx Γ w I sl a) {o:Oper} {t e ty:TypeId} {x:Operand} {x' : Opd} (ho:o.op=.binOp .eql t x (.const (.slice none 0 0)) ty) (hx:Qd x=some x') (ht:P.underlying t=some (.slice e)) {xs:List D} (hv:evO sl x'=.d (.sl xs)) :
  ∃ b,(b=true→xs=[])∧Vk P Γ I o a w { eff := { val:=.d (.bool b) },gone:=[] }:=by
 have h1:=hs.ev hx
 rw[hv] at h1
 obtain⟨ad,c,hh,hnil⟩:∃ ad c,a.eval x=.slice ad xs.length c∧(ad=none→xs=[]):=by
  obtain⟨ad,c,h2,_,h3⟩:=Q5.1 h1
  refine⟨ad,c,by simpa using h2,fun hn=>?_⟩
  rcases h3 with h3 | ⟨b,o,sz,h3,_⟩
  ·exact h3
  ·rw[hn] at h3;cases h3
 refine⟨ad.isNone,(fun hb=>hnil (by simpa using hb)),.bool ad.isNone,.d (.bool ad.isNone),.inl ?_,rfl,Q5.2 (ZdO _)⟩
 have hc:a.eval (.const (.slice none 0 0))=.slice none 0 0:=rfl
 simp only[execOp,ho]
 rw[hc,hh]
 simp[ZnE (P:=P) (w:=w) (op:=.eql) (t:=t) (x:=x) (y:=.const (.slice none 0 0)) (u:=.slice ad xs.length c) (v:=.slice none 0 0) (by simp) (by simp),Zuj ht]
def cL:Code→Code
 | .seq a _=>a
 | c=>c
def cR:Code→Code
 | .seq _ b=>b
 | c=>c
def cThen:Code→Code
 | .cond _ a _=>a
 | c=>c
def rId:Code→Nat
 | .region i _ _=>i
 | _=>0
def rOp (k:Nat):Code→Oper
 | .region _ ops _=>(ops[k]?).getD default
 | _=>default
def eqTy:Op→TypeId
 | .binOp _ t _ _ _=>t
 | _=>0
def eqTy2:Op→TypeId
 | .binOp _ _ _ _ t=>t
 | _=>0
def bodyOf (fn:Func):Code:=match fn.body with
 | some c=>c
 | none=>.skip
structure ZxO (P:Program) (f:FuncId) (nt:Nat) (res:List ZqX) (c0 cA cB:Ze):Prop where
 ex:∃ fn t e ty id x0 xA xB g3 g4,P.funcs[f]?=some fn∧(fn.name == "runtime.NumGoroutine")=false∧fn.ntmps=nt∧Q6 (cRes P) fn.results.toList=some res ∧
  fn.body=some (.seq x0 (.seq (.seq (.region id #[g3,g4] false) (.cond (.tmp 4) xA .skip)) xB))∧JH P nt x0=some (VQ c0)∧JH P nt xA=some (VQ cA)∧JH P nt xB=some (VQ cB) ∧
  g3.op=.move (.tmp 0)∧g3.dst=some 3∧g3.guard=none∧g4.op=.binOp .eql t (.tmp 3) (.const (.slice none 0 0)) ty∧g4.dst=some 4∧g4.guard=none∧VD P t=some e
theorem ZrI {C:Orc} {M:Zt} (hC:QD P C) (hB:Wo C) {f:FuncId} {res:List ZqX} {c0 cA cB:Ze} (hf:ZxO P f nt res c0 cA cB) (hD:Wp P C M nt) (hnt:4<nt)
  {N:Nat} {xs:List D} {r:AV} {hs:List Zo} {st1:St} (h0:ZL C M N c0 { sl:=[(0,.d (.sl xs))],hp:=[],nx:=0,m:=0 }=some (.normal,st1)) (hx:gs st1.sl 0=.d (.sl xs)) (hm:st1.m=0)
  (hrun:∀ b,(b=true→xs=[])→ZcQ 0 res (ZL C M N (.seq (.cond (.t 4) cA .skip) cB) { sl:=Zw (Zw st1.sl (some 3) (.d (.sl xs))) (some 4) (.d (.bool b)),hp:=st1.hp,nx:=st1.nx+128,m:=0 })=some (r,hs)):ZoH P f [.d (.sl xs)] [] r hs:=by
 obtain⟨fn,t,e,ty,id,x0,xA,xB,g3,g4,hfn,hname,hntm,hres,hbody,e0,eA,eB,o3,d3,u3,o4,d4,u4,he⟩:=hf.ex
 subst hntm
 refine⟨⟨fn,hfn,hname,by rw[hbody];rfl⟩,fun F A I Γ args w hpre=>?_⟩
 refine calls_of_wp hfn hbody ?_
 have hlen:args.length=1:=hpre.args.length.symm
 have hS:Sim fn.ntmps F A I Γ (Zbz 0) [(0,.d (.sl xs))] [] { tmps:=args.toArray++Array.replicate (fn.ntmps-args.toArray.size) undef,defers:=[] } w:=by
  refine { nt:=by simp;omega,dfr:=rfl,slots:=(fun t=>?_),objs:=(fun id o hl=>by cases hl),inj:=(fun i j o o' b hi=>by cases hi),bound:=hpre.bound,fresh:=hpre.fresh,own:=hpre.own,names:=fun id hid=>hpre.names id (by simp),glob:=hpre.glob }
  by_cases ht:t=0
  ·subst ht
   obtain⟨v,h1,h2⟩:=hpre.args.get 0 (.d (.sl xs)) rfl
   have h3:(args.toArray++Array.replicate (fn.ntmps-args.toArray.size) undef).getD 0 undef=v:=by
    have hlt:=(List.getElem?_eq_some_iff.1 h1).1
    have h4:=List.getElem?_eq_getElem hlt
    rw[h1] at h4
    simp[Array.getElem?_append,hlt]
    exact(Option.some.inj h4).symm
   rw[h3]
   exact h2
  ·have:gs [(0,AV.d (.sl xs))] t=.junk:=by
    simp only[gs,lkp]
    rw[if_neg (fun e=>ht e.symm)];rfl
   rw[this];exact trivial
 have hc:ZhC Γ Γ []:=fun k b hk=>by
  rw[hpre.names k (by simp)] at hk;cases hk
 refine wp_seq (ZhD (F:=F) (A:=A) (Γ0:=Γ) hC hB hD c0 x0 e0 h0 hS hc (fun k _=>hpre.names k (by simp)) fun a1 w1 hp=>?_)
 obtain⟨I1,Γ1,b1,b2,b3,b4,b5⟩:=hp
 refine wp_seq (wp_seq (wp_region ?_))
 have hr2:List.range (#[g3,g4]:Array Oper).size=[0,1]:=rfl
 rw[hr2]
 have dk:∀ d:Nat,d<5→XI fn.ntmps (some d)=true:=fun d hd=>by simp[XI];omega
 have p3:Vk P Γ1 I1 g3 a1 w1 { eff := { val:=.d (.sl xs) },gone:=[] }:=by
  have:=ZmJ (P:=P) (Γ:=Γ1) (I:=I1) (w:=w1) (a:=a1) (sl:=st1.sl) (o:=g3) (x:=.tmp 0) (y:=.t 0) (.inl o3) b5.slOK rfl (ce := { eff := { val:=.d (.sl xs) },gone:=[] }) (by simp[evO,hx,QT])
  exact this
 have q3:=(p3.opOK b5 (base:=st1.nx) (ZmS _) (by rw[d3];exact dk 3 (by omega))).opWp
 have gu:∀ (o:Oper),o.guard=none→∀ (y:Nat→Option Bool),Region.wanted o y=true:=fun o ho y=>by unfold Region.wanted;rw[ho]
 have i0:(#[g3,g4]:Array Oper)[0]?=some g3:=rfl
 have i1:(#[g3,g4]:Array Oper)[1]?=some g4:=rfl
 simp only[wpOps,i0,i1,gu g3 u3,gu g4 u4,if_true]
 refine .inl (q3 _ _ fun u2 w2 hp2=>?_)
 obtain⟨I2,Γ2,c1,c2,c3,c4,c5⟩:=hp2
 have c5':=c5.more ZmT
 rw[d3] at c5'
 have hx3:gs (Zw st1.sl (some 3) (.d (.sl xs))) 3=.d (.sl xs):=by rw[QU,if_pos rfl]
 obtain⟨b,hbx,p4⟩:=Zwd (P:=P) c5'.slOK o4 (x':=.t 3) rfl (Xt he) (xs:=xs) hx3
 have q4:=(p4.opOK c5' (base:=st1.nx+64) (ZmS _) (by rw[d4];exact dk 4 (by omega))).opWp
 rw[d3]
 refine .inl (q4 _ _ fun u4 w4 hp4=>?_)
 obtain⟨I4,Γ4,f1,f2,f3,f4,f5⟩:=hp4
 have f5':=f5.more ZmT
 rw[d4] at f5'
 have hSb:Sim fn.ntmps F A I4 Γ4 (Zbz (st1.nx+128)) (Zw (Zw st1.sl (some 3) (.d (.sl xs))) (some 4) (.d (.bool b))) st1.hp _ w4:=f5'
 rw[d4]
 have hcb:ZhC Γ Γ4 st1.hp:=fun k b hk=>by rw[hpre.names k (by simp)] at hk;cases hk
 have hk:Z3 I I4 w w4:=(b2.trans c2).trans f2
 have hsub:∀ b,I4 b→I b∨F b:=fun b hb=>(f3 b hb).elim (fun h=>(c3 b h).elim (b3 b) .inr) .inr
 have hfr:Fr F w w4:=(b4.trans c4).trans f4
 have hrb:=hrun b hbx
 simp only[ZL] at hrb
 have fin:∀ (ex:Ex) (st' : St) (a' : Act) (w' : World),(ex=.normal∨ex=.ret)→ZcQ 0 res (some (ex,st'))=some (r,hs)→ZbA fn.ntmps F A Γ I w st' a' w'→a'.defers=[]∧∃ v,(results fn a'.tmps).run P w'=.ok v w'∧∃ v2 I' Γ',Ending.returned v=.returned v2∧ZyL F A I Γ w hs r I' Γ' v2 w':=by
  intro ex st' a' w' hex hres' hp
  have hres'' : (bnd (Q6 (Zn3 st') res) fun vs=>some (Wm 0 st'.hp (Zdq vs)))=some (r,hs):=by
   rcases hex with rfl | rfl<;>simpa [ZcQ] using hres'
  obtain⟨I',Γ',b1,b2,b3,b4,b5⟩:=hp
  obtain⟨vs,hvs,hres''⟩:=Za hres''
  obtain⟨us,hus,hrep⟩:=ZiO b5 hres hvs
  refine⟨b5.dfr,(if h:us.toArray.size=1 then us.toArray[0] else .tuple us.toArray),?_,_,I',ZcS st'.hp (Xd st'.hp (XO st'.hp) (ZI (Zdq vs)++UD st'.hp (List.range 0)) (List.range 0)) Γ',rfl,?_⟩
  ·unfold results
   rw[Sem.run_bind,Array.mapM_eq_mapM_toList,Sem.run_map]
   exact congrArg (fun r:Result (List Value)=>(r.andThen fun a w'=>Result.ok a.toArray w').andThen fun a w'=>Sem.run P (pure (if h:a.size=1 then a[0] else Value.tuple a)) w') hus
  ·have hnd:=(Zcr st'.hp (XO st'.hp) (ZI (Zdq vs)++UD st'.hp (List.range 0)) (List.range 0) List.nodup_range).1
   obtain⟨t1,t2,t3⟩:=Zw3 b5 hnd
   simp only[Wm,Option.some.injEq,Prod.mk.injEq] at hres''
   obtain⟨rfl,rfl⟩:=hres''
   exact { boxes:=(fun id b hg=>by rw[hpre.names id (by simp)] at hg;cases hg),keeps:=b2,sub:=b3,fr:=b4,res:=ZpH _ (Zya hrep),objs:=t1,inj:=t2,bound:=b5.bound,names:=fun id hid=>t3 id (by simpa [Zfa] using hid) }
 cases hcd:ZL C M N (.cond (.t 4) cA .skip) { sl:=Zw (Zw st1.sl (some 3) (.d (.sl xs))) (some 4) (.d (.bool b)),hp:=st1.hp,nx:=st1.nx+128,m:=0 } with
 | none=>simp only[ZL] at hcd;rw[hcd] at hrb;simp[andThen,ZcQ] at hrb
 | some q=>
  obtain⟨e1,s1⟩:=q
  have hcd':=hcd
  simp only[ZL] at hcd'
  rw[hcd'] at hrb
  have hcx:JH P fn.ntmps (.cond (.tmp 4) xA .skip)=some (VQ (.cond (.t 4) cA .skip)):=by
   simp only[JH,Qd,Zf,eA,VQ]
  refine ZhD (F:=F) (A:=A) (Γ0:=Γ) hC hB hD (.cond (.t 4) cA .skip) (.cond (.tmp 4) xA .skip) hcx hcd hSb hcb (fun k _=>hpre.names k (by simp)) fun a5 w5 hp5=>?_
  cases e1 with
  | normal=>
   simp only[andThen] at hrb
   cases hcB:ZL C M N cB s1 with
   | none=>rw[hcB] at hrb;simp[ZcQ] at hrb
   | some q2=>
    obtain⟨e2,s2⟩:=q2
    rw[hcB] at hrb
    obtain⟨I5,Γ5,g1,g2,g3',g4',g5⟩:=hp5
    have hcp:ZbA fn.ntmps F A Γ I4 w4 s1 a5 w5:=⟨I5,Γ5,g1,g2,g3',g4',g5⟩
    refine ZhD (F:=F) (A:=A) (Γ0:=Γ) hC hB hD cB xB eB hcB g5 g1 (fun k _=>hpre.names k (by simp)) fun a6 w6 hp6=>?_
    have hp7:=(hp6.step g2 g3' g4').step hk hsub hfr
    cases e2 with
    | normal=>exact fin .normal s2 a6 w6 (.inl rfl) hrb hp7
    | ret=>exact fin .ret s2 a6 w6 (.inr rfl) hrb hp7
    | exit id=>simp[ZcQ] at hrb
  | ret=>
   simp only[andThen] at hrb
   exact fin .ret s1 a5 w5 (.inr rfl) hrb (hp5.step hk hsub hfr)
  | exit id=>simp[andThen,ZcQ] at hrb
end
end Go.Abs
set_option linter.unusedVariables false
set_option linter.unusedSimpArgs false
set_option linter.unusedSimpArgs false
namespace Go.Abs
open Go Go.Abs.E
def QS (P:Program) (f:FuncId) (p:List AV→List Zo→Option (AV×List Zo)):Prop:=
 ∀ as h r hs,p as h=some (r,hs)→ZoH P f as h r hs∧∀ (k:Nat) (cs:List AV),h[k]?=some (Zo.box cs)→∃ cs',hs[k]?=some (Zo.box cs')
open Classical in
noncomputable def ZAw (s b:Nat):List AV→List Zo→Option (AV×List Zo)
 | [.d (.sl xs)],[]=>if uni s xs∧Q7 xs∧xs.length*b≤QI∧xs.length≤QI then some (.own 0,[.row s xs true false]) else none
 | _,_=>none
def Zwe (s:Nat):Ze:=.keep [0] (.region 1 none [⟨some 2,none,.assign (some s) (.v .nil),false⟩])
def ZoM (s:Nat):Ze:=.seq (.keep [2] (.region 1 none [⟨some 2,none,.assign (some s) (.v .nil),false⟩])) .ret
def ZoN (s b:Nat):Ze:=.seq (.keep [2] (.region 4 none [⟨some 5,none,.buildSl s [],true⟩,⟨some 6,none,.move (.t 0),false⟩,⟨some 7,none,.append s b false true (.t 5) (.t 6),true⟩,⟨some 2,none,.assign (some s) (.t 7),false⟩])) .ret
theorem ZAx {X:Fns} {M:Zt} {c:Ze} {st:St} {Q:Ex→St→Prop} (h:W X M c st Q):∃ e st',Xh X M c st=some (e,st')∧Q e st':=by
 unfold W at h
 cases hv:Xh X M c st with
 | none=>rw[hv] at h;exact h.elim
 | some r=>rw[hv] at h;exact⟨r.1,r.2,rfl,h⟩
theorem clone_ok {P:Program} {f:FuncId} {s b:Nat} (hf:ZxO P f 8 [.tmp 2] (Zwe s) (ZoM s) (ZoN s b)) (hD:∀ C M nt,QD P C→Wo C→Wp P C M nt):QS P f (ZAw s b):=by
 intro as h r hs hp
 unfold ZAw at hp
 split at hp
 ·rename_i xs
  split at hp
  ·rename_i hc
   obtain⟨c1,c2,c3,c4⟩:=hc
   cases hp
   refine⟨?_,fun k cs hk=>by simp at hk⟩
   let X:Fns:=fun _=>none
   let M:Zt:=fun _ _=>false
   have hX:ZdD P X M:=⟨(fun f cf h=>by cases h),(fun f p h=>by cases h)⟩
   have hS:=ZhE hX (fun C nt hC hB=>hD C M nt hC hB)
   have hB:=ZkO hX
   have w0:W X M (Zwe s) { sl:=[(0,.d (.sl xs))],hp:=[],nx:=0,m:=0 } (fun e st=>e=.normal∧st = { sl:=[(0,.d (.sl xs))],hp:=[(0,.row s [] true false)],nx:=64,m:=0 }):=by
    unfold Zwe
    simp +contextual -implicitDefEqProofs (maxSteps:=10000000) only[go_sem,seval,↓gA,↓gB,↓gC,↓gD,↓gE,↓gF,↓gG]
   have w1:∀ b',(b'=true→xs=[])→W X M (.seq (.cond (.t 4) (ZoM s) .skip) (ZoN s b)) { sl:=Zw (Zw [(0,.d (.sl xs))] (some 3) (.d (.sl xs))) (some 4) (.d (.bool b')),hp:=[(0,.row s [] true false)],nx:=64+128,m:=0 } (fun e st=>ZcQ 0 [.tmp 2] (some (e,st))=some (.own 0,[.row s xs true false])):=by
    intro b' hb'
    cases b' with
    | true=>
     have:=hb' rfl
     subst this
     simp +contextual -implicitDefEqProofs (maxSteps:=10000000) only[ZoM,ZoN,go_sem,seval,↓gA,↓gB,↓gC,↓gD,↓gE,↓gF,↓gG]
     rfl
    | false=>
     simp +contextual -implicitDefEqProofs (maxSteps:=10000000) only[ZoM,ZoN,c1,c2,c3,c4,go_sem,seval,↓gA,↓gB,↓gC,↓gD,↓gE,↓gF,↓gG]
     exact⟨fun _=>rfl,fun h=>h ⟨c3,c4⟩⟩
   obtain⟨e0,st0,h0,rfl,rfl⟩:=ZAx w0
   obtain⟨n0,h0⟩:=Za6 X M h0
   have pick:∀ b',(b'=true→xs=[])→∃ n,∀ m,n≤m→ZcQ 0 [.tmp 2] (ZL (QC X M m) M m (.seq (.cond (.t 4) (ZoM s) .skip) (ZoN s b)) { sl:=Zw (Zw [(0,.d (.sl xs))] (some 3) (.d (.sl xs))) (some 4) (.d (.bool b')),hp:=[(0,.row s [] true false)],nx:=64+128,m:=0 })=some (.own 0,[.row s xs true false]):=by
    intro b' hb'
    obtain⟨e1,st1,h1,h2⟩:=ZAx (w1 b' hb')
    obtain⟨n,hn⟩:=Za6 X M h1
    exact⟨n,fun m hm=>by rw[hn m hm];exact h2⟩
   obtain⟨nf,hnf⟩:=pick false (by simp)
   by_cases hx:xs=[]
   ·obtain⟨nt,hnt⟩:=pick true fun _=>hx
    have m1:n0≤n0+nf+nt:=by omega
    exact ZrI (hS (n0+nf+nt)) (hB (n0+nf+nt)) hf (hD _ M 8 (hS _) (hB _)) (by omega) (h0 _ m1) rfl rfl fun b' hb'=>by
     cases b' with
     | true=>exact hnt _ (by omega)
     | false=>exact hnf _ (by omega)
   ·have m1:n0≤n0+nf:=by omega
    exact ZrI (hS (n0+nf)) (hB (n0+nf)) hf (hD _ M 8 (hS _) (hB _)) (by omega) (h0 _ m1) rfl rfl fun b' hb'=>by
     cases b' with
     | true=>exact absurd (hb' rfl) hx
     | false=>exact hnf _ (by omega)
  ·cases hp
 ·cases hp
end Go.Abs
set_option linter.unusedSimpArgs false
set_option linter.unusedVariables false
namespace Go.Abs
open Go Go.Abs.E Go.Abs.L
theorem ZsS {P:Program} {f:FuncId} {as:List AV} {h:List Zo} {s0 s n:Nat} {ys zs:List D} (hz:ys.take n=zs) (hs:ZoH P f as h (.ownv 1 0 n) [.row s0 [] true false,.row s ys true false]) :
  ZoH P f as h (.own 1) [.row s0 [] true false,.row s zs true false]:=by
 subst hz
 refine⟨hs.1,fun F A I Γ args w hp=>(hs.2 F A I Γ args w hp).mono fun e w' ⟨v,I',Γ',he,hb⟩=>?_⟩
 obtain⟨a0,m,c,sz,a,h1,h2,h3,h4,h5,_⟩:=hb.res
 obtain⟨a1,m1,c1,h6,h7⟩:=hb.objs 1 (.row s ys true false) rfl
 rw[h1] at h6
 cases h6
 have h5:=h5 rfl
 subst h5
 have hup:∀ i,i≠1→(fun i=>if i=1 then some (Ref.row a n c s) else Γ' i) i=Γ' i:=fun i hi=>by simp[hi]
 have hblk:∀ i,ZG ((fun i=>if i=1 then some (Ref.row a n c s) else Γ' i) i)=ZG (Γ' i):=fun i=>by
  by_cases hi:i=1
  ·subst hi;simp only[if_true,h1]
   cases a<;>rfl
  ·rw[hup i hi]
 have hl:∀ i o,lkp (W5 0 [Zo.row s0 [] true false,.row s (ys.take n) true false]) i=some o→∃ o',lkp (W5 0 [Zo.row s0 [] true false,.row s ys true false]) i=some o' ∧
   (∀ b,Blk (fun i=>if i=1 then some (Ref.row a n c s) else Γ' i) w' i o b→Blk Γ' w' i o' b)∧(i≠1→o'=o)∧(i=1→o=.row s (ys.take n) true false):=by
  intro i o ho
  simp only[W5,List.nil_append,List.cons_append,lkp] at ho ⊢
  by_cases hi:i=1
  ·subst hi
   simp at ho
   subst ho
   refine⟨.row s ys true false,by simp,fun b hB=>?_,fun h=>absurd rfl h,fun _=>rfl⟩
   rcases hB with hB | hB
   ·exact .inl (by rw[← hB];exact(hblk 1).symm)
   ·exact hB.elim False.elim False.elim
  ·have hi' : ¬0+1=i:=fun e=>hi (by omega)
   simp only[if_neg hi'] at ho ⊢
   split at ho
   ·rename_i h0
    simp only[if_pos h0]
    cases ho
    refine⟨_,rfl,fun b hB=>?_,fun _=>rfl,fun h=>absurd h hi⟩
    rcases hB with hB | hB
    ·exact .inl (by rw[← hB];exact(hblk i).symm)
    ·exact hB.elim False.elim False.elim
   ·cases ho
 refine⟨v,I',fun i=>if i=1 then some (.row a n c s) else Γ' i,he,{ boxes:=fun id b hg=>?_,keeps:=hb.keeps,sub:=hb.sub,fr:=hb.fr,res:=⟨a,n,c,s,by simp,by simpa using h4⟩,objs:=?_,inj:=?_,bound:=hb.bound,names:=fun id hid=>?_ }⟩
 ·have:=hb.boxes id b hg
  by_cases hi:id=1
  ·subst hi;rw[h1] at this;cases this
  ·simp only[if_neg hi];exact this
 ·intro id o ho
  obtain⟨o',e1,_,e2,e3⟩:=hl id o ho
  by_cases hi:id=1
  ·subst hi
   rw[e3 rfl]
   refine⟨a,n,c,by simp,?_,?_⟩
   ·have:=h7.1
    simp;omega
   ·rcases h7.2 with ⟨k1,k2⟩ | ⟨g,cur,e,k1,k2,k3,k4,k5,k6,k7,k8,k9,k10⟩
    ·exact .inl ⟨by omega,k2⟩
    ·refine .inr ⟨g,cur,e,k1,k2,k3,by omega,k5,k6,k7,k8,k9,?_⟩
     rw[YZ] at k10 ⊢
     intro i x hx
     rw[List.getElem?_take] at hx
     split at hx
     ·exact k10 i x hx
     ·cases hx
  ·have:=hb.objs id o' e1
   rw[e2 hi] at this
   simp only[W5,List.nil_append,List.cons_append,lkp] at ho
   have hi' : ¬0+1=id:=fun e=>hi (by omega)
   simp only[if_neg hi'] at ho
   split at ho
   ·cases ho
    obtain⟨a2,n2,c2,q1,q2⟩:=this
    exact⟨a2,n2,c2,by simp only[if_neg hi];exact q1,q2⟩
   ·cases ho
 ·intro i j o o' b hi hj hbi hbj
  obtain⟨o1,e1,e2,_⟩:=hl i o hi
  obtain⟨o2,e3,e4,_⟩:=hl j o' hj
  exact hb.inj i j o1 o2 b e1 e3 (e2 b hbi) (e4 b hbj)
 ·have:=hb.names id hid
  have hi:id≠1:=fun e=>by subst e;simp at hid
  simp only[if_neg hi];exact this
open Classical in
noncomputable def ZxP (s b:Nat) (z:D):List AV→List Zo→Option (AV×List Zo)
 | [.own 0,.d (.int .i64 i),.d (.int .i64 j)],[.row s' xs true false]=>if s'=s∧0≤i∧j=i+1∧i<xs.length∧uni s xs∧Q7 xs∧z.cells.length=s∧z.flat=true then some (.own 1,[.row 0 [] true false,.row s (xs.eraseIdx i.toNat) true false]) else none
 | _,_=>none
def delF (s b:Nat) (z:D):ZH:=⟨33,[.tmp 6],.seq (.keep [2,1,0] (.region 1 none [⟨some 6,none,.assign (some s) (.v .nil),false⟩])) (.seq (.keep [2,1,0] (.region 6 none [⟨some 8,none,.move (.t 0),false⟩,⟨some 9,none,.move (.t 1),false⟩,⟨some 10,none,.move (.t 2),false⟩,⟨some 11,none,.move (.t 0),false⟩,⟨some 12,none,.len (.t 11),false⟩,⟨some 13,none,.slice3 s (.t 8) (.t 9) (.t 10) (.t 12),false⟩]))
 (.seq (.seq (.keep [16,2,1,0] (.region 3 none [⟨some 14,none,.move (.t 1),false⟩,⟨some 15,none,.move (.t 2),false⟩,⟨some 16,none,.bin .eql false (.t 14) (.t 15),false⟩])) (.cond (.t 16) (.seq (.keep [6] (.region 2 none [⟨some 17,none,.move (.t 0),false⟩,⟨some 6,none,.assign (some s) (.t 17),false⟩])) .ret) .skip))
 (.seq (.keep [7,2,1,0] (.region 3 none [⟨some 18,none,.move (.t 0),false⟩,⟨some 19,none,.len (.t 18),false⟩,⟨some 7,none,.assign none (.t 19),false⟩]))
 (.seq (.keep [7,0] (.region 8 (some []) [⟨some 20,none,.move (.t 0),false⟩,⟨some 21,none,.move (.t 1),false⟩,⟨some 22,none,.slice s (.t 20) none (some (.t 21)),false⟩,⟨some 23,none,.move (.t 0),false⟩,⟨some 24,none,.move (.t 2),false⟩,⟨some 25,none,.slice s (.t 23) (some (.t 24)) none,false⟩,⟨some 26,none,.append s b false true (.t 22) (.t 25),true⟩,⟨some 0,none,.assign (some s) (.t 26),false⟩]))
 (.seq (.keep [0] (.region 6 none [⟨some 27,none,.move (.t 0),false⟩,⟨some 28,none,.move (.t 0),false⟩,⟨some 29,none,.len (.t 28),false⟩,⟨some 30,none,.move (.t 7),false⟩,⟨some 31,none,.slice s (.t 27) (some (.t 29)) (some (.t 30)),false⟩,⟨none,none,.clear s z (.t 31),false⟩])) (.seq (.keep [6] (.region 2 none [⟨some 32,none,.move (.t 0),false⟩,⟨some 6,none,.assign (some s) (.t 32),false⟩])) .ret))))))⟩
theorem uni_take {s:Nat} {xs:List D} (n:Nat) (h:uni s xs):uni s (xs.take n):=fun y hy=>h y (List.mem_of_mem_take hy)
theorem ZAy {s:Nat} {xs:List D} (n:Nat) (h:uni s xs):uni s (xs.drop n):=fun y hy=>h y (List.mem_of_mem_drop hy)
theorem ZCH {xs:List D} (n:Nat) (h:Q7 xs):Q7 (xs.take n):=fun y hy=>h y (List.mem_of_mem_take hy)
theorem ZsT {xs:List D} (n:Nat) (h:Q7 xs):Q7 (xs.drop n):=fun y hy=>h y (List.mem_of_mem_drop hy)
theorem ZAz {f:Nat} {s b:Nat} {z:D} {M:Zt} {X:Fns} (hX:X f=some (.text (delF s b z))) {xs:List D} {i:Nat} (hi:i<xs.length) (hu:uni s xs) (hf:Q7 xs) (hz:z.cells.length=s) (hzf:z.flat=true) :
  ∃ r,Zh X M f [.own 0,.d (.int .i64 (i:Int)),.d (.int .i64 ((i:Int)+1))] [.row s xs true false]=some r∧∃ ys,r=(.ownv 1 0 (xs.length-1),[.row 0 [] true false,.row s ys true false])∧ys.take (xs.length-1)=xs.eraseIdx i:=by
 have h1:¬((i:Int)=(i:Int)+1):=by omega
 have h2:(0:Int)≤(i:Int):=by omega
 have h3:(i:Int)≤(i:Int)+1:=by omega
 have h4:(i:Int)+1≤(xs.length:Int):=by omega
 have h5:(0:Int)≤(i:Int)+1:=by omega
 have h6:(i:Int)≤(xs.length:Int):=by omega
 refine ZrX X M (delF s b z) hX (by show 3≤33;decide) ?_
 have q1:(List.take i xs).length=i:=by simp;omega
 have q2:(List.drop (i+1) xs).length=xs.length-(i+1):=by simp
 have c1:((i:Int)+1).toNat=i+1:=by omega
 have t1:List.take (xs.length-(i+1)) (List.drop (i+1) xs)=List.drop (i+1) xs:=List.take_of_length_le (by simp)
 have q3:i+(xs.length-(i+1))=xs.length-1:=by omega
 have q5:(List.drop (xs.length-1) xs).length=1:=by simp;omega
 have q6:xs.length-1+1=xs.length:=by omega
 have q7:xs.length-(xs.length-1)=1:=by omega
 have q8:0<xs.length:=by omega
 have q9:xs.length-1≤xs.length:=by omega
 have u1:=ZAy (i+1) hu
 have f1:=ZsT (i+1) hf
 simp +contextual -implicitDefEqProofs (maxSteps:=10000000) only[delF,go_sem,seval,↓gA,↓gB,↓gC,↓gD,↓gE,↓gF,↓gG,ZmM,h1,h2,h3,h4,h5,h6,c1,Int.toNat_natCast,q1,q2,t1,q3,q5,q6,q7,q8,q9,u1,f1,hz,Nat.sub_zero,Nat.zero_add]
 have e1:(List.take i xs++List.drop (i+1) xs).length=xs.length-1:=by rw[List.length_append,q1,q2,q3]
 refine⟨_,rfl,?_⟩
 rw[List.take_left' e1,List.append_assoc,List.take_left' e1,List.eraseIdx_eq_take_drop_succ]
theorem delete_ok {P:Program} {f:FuncId} {s b:Nat} {z:D} (hf:∃ fn,P.funcs[f]?=some fn∧(fn.name == "runtime.NumGoroutine")=false∧cFun P fn=some (ZmR (delF s b z))) (hD:∀ C M nt,QD P C→Wo C→Wp P C M nt):QS P f (ZxP s b z):=by
 intro as h r hs hp
 unfold ZxP at hp
 split at hp
 ·rename_i i j s' xs
  split at hp
  ·rename_i hc
   obtain⟨c1,c2,c3,c4,c5,c6,c7,c8⟩:=hc
   cases hp
   subst c1 c3
   obtain⟨n,rfl⟩:∃ n:Nat,i=(n:Int):=⟨i.toNat,by omega⟩
   refine⟨?_,fun k cs hk=>?_⟩
   ·let X:Fns:=fun g=>if g=f then some (.text (delF s' b z)) else none
    let M:Zt:=fun _ _=>false
    have hX:ZdD P X M:=⟨(fun g cf h=>by
     simp only[X] at h
     split at h
     ·rename_i e
      cases h
      subst e
      exact hf
     ·cases h),(fun g p h=>by
     simp only[X] at h
     split at h<;>cases h)⟩
    have hS:=ZnG hX (fun C nt hC hB=>hD C M nt hC hB)
    obtain⟨r,h1,ys,rfl,h2⟩:=ZAz (f:=f) (s:=s') (b:=b) (z:=z) (M:=M) (X:=X) (by simp[X]) (xs:=xs) (i:=n) (by omega) c5 c6 c7 c8
    rw[Int.toNat_natCast]
    exact ZsS h2 (hS _ _ _ _ _ h1)
   ·cases k with
    | zero=>simp at hk
    | succ k=>simp at hk
  ·cases hp
 ·cases hp
end Go.Abs
