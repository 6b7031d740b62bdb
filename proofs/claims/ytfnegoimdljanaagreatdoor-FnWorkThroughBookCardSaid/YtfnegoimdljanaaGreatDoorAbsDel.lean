import Derived.Test.YtfnegoimdljanaaGreatDoorAbsDraw5
import Derived.Test.YtfnegoimdljanaaGreatDoorAbsLib
set_option linter.unusedSimpArgs false
set_option linter.unusedVariables false
namespace Go.Abs
open Go
section
variable {P:Program} {nt:Nat} {U:Nat→Prop} {F A I:Nat→Prop} {Γ:Gh} {sl:Sl} {hp:Hp} {a:Act} {w:World}
theorem Zu9 {t e:TypeId} (h:P.underlying t=some (.slice e)) (ad:Option Addr) (n c:Nat):(binOp .eql t (.slice ad n c) (.slice none 0 0)).run P w=.ok (.bool ad.isNone) w:=by
 have h1:binOp .eql t (.slice ad n c) (.slice none 0 0)=(do let r ← Op.equalIn (9999+1) t (.slice ad n c) (.slice none 0 0);pure (.bool r)):=rfl;rw[h1,Sem.run_bind];have h2:(Op.equalIn (9999+1) t (.slice ad n c) (.slice none 0 0)).run P w=.ok ad.isNone w:=by
  rw[Op.equalIn];rw[Sem.run_bind,run_underlying h];cases ad<;>rfl
 rw[h2];rfl
theorem ZwY (hs:Za2 Γ w I sl a) {o:Oper} {t e ty:TypeId} {x:Operand} {x' : Opd} (ho:o.op=.binOp .eql t x (.const (.slice none 0 0)) ty) (hx:ZW x=some x') (ht:P.underlying t=some (.slice e)) {xs:List D} (hv:evO sl x'=.d (.sl xs)) :
  ∃ b,(b=true→xs=[])∧X7 P Γ I o a w { eff := { val:=.d (.bool b) },gone:=[] }:=by
 have h1:=hs.ev hx;rw[hv] at h1;obtain⟨ad,c,hh,aa⟩:∃ ad c,a.eval x=.slice ad xs.length c∧(ad=none→xs=[]):=by
  obtain⟨ad,c,h2,_,h3⟩:=Qi.1 h1;refine⟨ad,c,by simpa using h2,fun hn=>?_⟩;rcases h3 with h3 | ⟨b,o,sz,h3,_⟩
  ·exact h3
  ·rw[hn] at h3;cases h3
 refine⟨ad.isNone,(fun hb=>aa (by simpa using hb)),.bool ad.isNone,.d (.bool ad.isNone),.inl ?_,rfl,Qi.2 (Zbn _)⟩;have hc:a.eval (.const (.slice none 0 0))=.slice none 0 0:=rfl;simp only[execOp,ho];rw[hc,hh];simp[ZnJ (P:=P) (w:=w) (op:=.eql) (t:=t) (x:=x) (y:=.const (.slice none 0 0)) (u:=.slice ad xs.length c) (v:=.slice none 0 0) (by simp) (by simp),Zu9 ht]
structure Zyu (P:Program) (f:FuncId) (nt:Nat) (res:List ZpX) (c0 cA cB:ZM):Prop where
 ex:∃ fn t e ty id x0 xA xB g3 g4,P.funcs[f]?=some fn∧(fn.name == "runtime.NumGoroutine")=false∧fn.ntmps=nt∧QF (cRes P) fn.results.toList=some res ∧
  fn.body=some (.seq x0 (.seq (.seq (.region id #[g3,g4] false) (.cond (.tmp 4) xA .skip)) xB))∧V3 P nt x0=some (X6 c0)∧V3 P nt xA=some (X6 cA)∧V3 P nt xB=some (X6 cB) ∧
  g3.op=.move (.tmp 0)∧g3.dst=some 3∧g3.guard=none∧g4.op=.binOp .eql t (.tmp 3) (.const (.slice none 0 0)) ty∧g4.dst=some 4∧g4.guard=none∧X4 P t=some e
theorem Zsr {C:Orc} {M:Zq} (hC:QJ P C) {f:FuncId} {res:List ZpX} {c0 cA cB:ZM} (hf:Zyu P f nt res c0 cA cB) (hD:Wm P C M nt) (bj:4<nt)
  {N:Nat} {xs:List D} {r:AV} {hs:List Zk} {st1:St} (h0:ZG C M N c0 { sl:=[(0,.d (.sl xs))],hp:=[],nx:=0,m:=0 }=some (.normal,st1)) (hx:gs st1.sl 0=.d (.sl xs)) (hm:st1.m=0)
  (al:∀ b,(b=true→xs=[])→Zdx 0 res (ZG C M N (.seq (.cond (.t 4) cA .skip) cB) { sl:=Zs (Zs st1.sl (some 3) (.d (.sl xs))) (some 4) (.d (.bool b)),hp:=st1.hp,nx:=st1.nx+128,m:=0 })=some (r,hs)):Zo7 P f [.d (.sl xs)] [] r hs:=by
 obtain⟨fn,t,e,ty,id,x0,xA,xB,g3,g4,ar,ag,am,an,af,e0,eA,eB,o3,d3,u3,o4,d4,u4,he⟩:=hf.ex;subst am;refine⟨⟨fn,ar,ag,by rw[af];rfl⟩,fun F A I Γ args w aa=>?_⟩;refine calls_of_wp ar af ?_;have a3:args.length=1:=aa.args.length.symm;have hS:Sim fn.ntmps F A I Γ (UU 0) [(0,.d (.sl xs))] [] { tmps:=args.toArray++Array.replicate (fn.ntmps-args.toArray.size) undef,defers:=[] } w:=by
  refine { nt:=by simp;omega,dfr:=rfl,slots:=(fun t=>?_),objs:=(fun id o hl=>by cases hl),inj:=(fun i j o o' b hi=>by cases hi),bound:=aa.bound,fresh:=aa.fresh,own:=aa.own,names:=fun id au=>aa.names id (by simp),glob:=aa.glob };by_cases ht:t=0
  ·subst ht;obtain⟨v,h1,h2⟩:=aa.args.get 0 (.d (.sl xs)) rfl;have h3:(args.toArray++Array.replicate (fn.ntmps-args.toArray.size) undef).getD 0 undef=v:=by
    have av:=(Kc.1 h1).1;have h4:=KK av;rw[h1] at h4;simp[Array.getElem?_append,av];exact(Option.some.inj h4).symm
   rw[h3];exact h2
  ·have:gs [(0,AV.d (.sl xs))] t=.junk:=by
    simp only[gs,lkp];rw[Ke (fun e=>ht e.symm)];rfl
   rw[this];exact trivial
 have hc:Ze9 Γ Γ []:=Qa.refl Γ;have ak:∀ m,m=0→Zqc Γ m:=fun m hm=>⟨fun k _=>aa.names k (by simp),fun k hk=>by omega⟩
 refine wp_seq (Zfb (F:=F) (A:=A) (Γ0:=Γ) hC hD c0 x0 e0 h0 hS hc (ak _ rfl) fun a1 w1 hp=>?_);obtain⟨I1,Γ1,b1,b2,b3,b4,b5⟩:=hp;refine wp_seq (wp_seq (wp_region ?_));have a4:List.range (#[g3,g4]:Array Oper).size=[0,1]:=rfl;rw[a4];have dk:∀ d:Nat,d<5→QP fn.ntmps (some d)=true:=fun d hd=>by simp[QP];omega
 have p3:X7 P Γ1 I1 g3 a1 w1 { eff := { val:=.d (.sl xs) },gone:=[] }:=by
  have:=Zmu (P:=P) (Γ:=Γ1) (I:=I1) (w:=w1) (a:=a1) (sl:=st1.sl) (o:=g3) (x:=.tmp 0) (y:=.t 0) (.inl o3) b5.slOK rfl (ce := { eff := { val:=.d (.sl xs) },gone:=[] }) (by simp[evO,hx,Qp]);exact this
 have q3:=(p3.opOK b5 (base:=st1.nx) (Zmr _) (by rw[d3];exact dk 3 o_)).opWp;have gu:∀ (o:Oper),o.guard=none→∀ (y:Nat→Option Bool),Region.wanted o y=true:=fun o ho y=>by unfold Region.wanted;rw[ho]
 have i0:(#[g3,g4]:Array Oper)[0]?=some g3:=rfl;have i1:(#[g3,g4]:Array Oper)[1]?=some g4:=rfl;simp only[wpOps,i0,i1,gu g3 u3,gu g4 u4,Kl];refine .inl (q3 _ _ fun u2 w2 a7=>?_);obtain⟨I2,Γ2,c1,c2,c3,c4,c5⟩:=a7;have ao:=c5.more Zms;rw[d3] at ao;have a8:gs (Zs st1.sl (some 3) (.d (.sl xs))) 3=.d (.sl xs):=by rw[QC,Kj rfl]
 obtain⟨b,a9,p4⟩:=ZwY (P:=P) ao.slOK o4 (x':=.t 3) rfl (QV he) (xs:=xs) a8;have q4:=(p4.opOK ao (base:=st1.nx+64) (Zmr _) (by rw[d4];exact dk 4 o_)).opWp;rw[d3];refine .inl (q4 _ _ fun u4 w4 ba=>?_);obtain⟨I4,Γ4,f1,f2,f3,f4,f5⟩:=ba;have aw:=f5.more Zms;rw[d4] at aw;have bb:Sim fn.ntmps F A I4 Γ4 (UU (st1.nx+128)) (Zs (Zs st1.sl (some 3) (.d (.sl xs))) (some 4) (.d (.bool b))) st1.hp _ w4:=aw;rw[d4];have bc:Ze9 Γ Γ4 st1.hp:=fun k b hk=>by rw[aa.names k (by simp)] at hk;cases hk
 have hk:ZO I I4 w w4:=(b2.trans c2).trans f2;have ah:∀ b,I4 b→I b∨F b:=fun b hb=>(f3 b hb).elim (fun h=>(c3 b h).elim (b3 b) .inr) .inr;have ax:Fr F w w4:=(b4.trans c4).trans f4;have ad:=al b a9;simp only[ZG] at ad;have ap:∀ (ex:Ex) (ae : St) (a' : Act) (w' : World),(ex=.normal∨ex=.ret)→Zdx 0 res (some (ex,ae))=some (r,hs)→UV fn.ntmps F A Γ I w ae a' w'→a'.defers=[]∧∃ v,(results fn a'.tmps).run P w'=.ok v w'∧∃ v2 I' Γ',Ending.returned v=.returned v2∧Zzf F A I Γ w hs r I' Γ' v2 w':=by
  intro ex ae a' w' bd ai hp;have ab : (bnd (QF (Zp7 ae) res) fun vs=>some (V2 0 ae.hp (ZbT vs)))=some (r,hs):=by
   rcases bd with rfl | rfl<;>simpa [Zdx] using ai
  obtain⟨I',Γ',b1,b2,b3,b4,b5⟩:=hp;obtain⟨vs,be,ab⟩:=Za ab;obtain⟨us,bf,aq⟩:=ZgA b5 an be;refine⟨b5.dfr,(if h:us.toArray.size=1 then us.toArray[0] else .tuple us.toArray),?_,_,I',ZbV ae.hp (Q6 ae.hp (XN ae.hp) (Zx (ZbT vs)++Wl ae.hp (List.range 0)) (List.range 0)) Γ',rfl,?_⟩
  ·unfold results;rw[Sem.run_bind,Array.mapM_eq_mapM_toList,Sem.run_map];exact congrArg (fun r:Result (List Value)=>(r.andThen fun a w'=>Result.ok a.toArray w').andThen fun a w'=>Sem.run P (pure (if h:a.size=1 then a[0] else Value.tuple a)) w') bf
  ·have bg:=(UA ae.hp (XN ae.hp) (Zx (ZbT vs)++Wl ae.hp (List.range 0)) (List.range 0) Kaq).1;obtain⟨t1,t2,t3⟩:=ZxB b5 bg (ZgY b5 b1 (ak 0 rfl));simp only[V2,Option.some.injEq,Prod.mk.injEq] at ab;obtain⟨rfl,rfl⟩:=ab;exact { heads:=(fun id b hg=>by rw[aa.names id (by simp)] at hg;cases hg),keeps:=b2,sub:=b3,fr:=b4,res:=Zqe _ (Zyx aq),objs:=t1,inj:=t2,bound:=b5.bound,names:=fun id au=>t3 id (by simpa [ZcR] using au) }
 cases hcd:ZG C M N (.cond (.t 4) cA .skip) { sl:=Zs (Zs st1.sl (some 3) (.d (.sl xs))) (some 4) (.d (.bool b)),hp:=st1.hp,nx:=st1.nx+128,m:=0 } with
 | none=>simp only[ZG] at hcd;rw[hcd] at ad;simp[andThen,Zdx] at ad
 | some q=>
  obtain⟨e1,s1⟩:=q;have aj:=hcd;simp only[ZG] at aj;rw[aj] at ad;have bh:V3 P fn.ntmps (.cond (.tmp 4) xA .skip)=some (X6 (.cond (.t 4) cA .skip)):=by
   simp only[V3,ZW,Zg,eA,X6]
  refine Zfb (F:=F) (A:=A) (Γ0:=Γ) hC hD (.cond (.t 4) cA .skip) (.cond (.tmp 4) xA .skip) bh hcd bb bc (ak _ rfl) fun a5 w5 ay=>?_;cases e1 with
  | normal=>
   simp only[andThen] at ad;cases hcB:ZG C M N cB s1 with
   | none=>rw[hcB] at ad;simp[Zdx] at ad
   | some q2=>
    obtain⟨e2,s2⟩:=q2;rw[hcB] at ad;obtain⟨I5,Γ5,g1,g2,az,a0,g5⟩:=ay;have bk:UV fn.ntmps F A Γ I4 w4 s1 a5 w5:=⟨I5,Γ5,g1,g2,az,a0,g5⟩
    refine Zfb (F:=F) (A:=A) (Γ0:=Γ) hC hD cB xB eB hcB g5 g1 (ak _ (ZxC _ _ _ _ hcd)) fun a6 w6 bi=>?_;have a2:=(bi.step g2 az a0).step hk ah ax;cases e2 with
    | normal=>exact ap .normal s2 a6 w6 (.inl rfl) ad a2
    | ret=>exact ap .ret s2 a6 w6 (.inr rfl) ad a2
    | exit id=>simp[Zdx] at ad
  | ret=>
   simp only[andThen] at ad;exact ap .ret s1 a5 w5 (.inr rfl) ad (ay.step hk ah ax)
  | exit id=>simp[andThen,Zdx] at ad
end
end Go.Abs
namespace Go.Abs
open Go Go.Abs.E
def YK (P:Program) (f:FuncId) (p:List AV→List Zk→Option (AV×List Zk)):Prop:=
 ∀ as1 h r hs,p as1 h=some (r,hs)→Zo7 P f as1 h r hs
open Classical in
noncomputable def Zl6 (s b:Nat):List AV→List Zk→Option (AV×List Zk)
 | [.d (.sl xs)],[]=>if uni s xs∧Xb xs∧xs.length*b≤ZL∧xs.length≤ZL then some (.own 0,[.row s xs true false]) else none
 | _,_=>none
def ZwZ (s:Nat):ZM:=.keep [0] (.region 1 none [⟨some 2,none,.assign (some s) (.v .nil),false⟩])
def Zpd (s:Nat):ZM:=.seq (.keep [2] (.region 1 none [⟨some 2,none,.assign (some s) (.v .nil),false⟩])) .ret
def Zpe (s b:Nat):ZM:=.seq (.keep [2] (.region 4 none [⟨some 5,none,.buildSl s [],true⟩,⟨some 6,none,.move (.t 0),false⟩,⟨some 7,none,.append s b false true (.t 5) (.t 6),true⟩,⟨some 2,none,.assign (some s) (.t 7),false⟩])) .ret
theorem ZAL {X:Fns} {M:Zq} {c:ZM} {st:St} {Q:Ex→St→Prop} (h:W X M c st Q):∃ e st',QA X M c st=some (e,st')∧Q e st':=by
 unfold W at h;cases hv:QA X M c st with
 | none=>rw[hv] at h;exact h.elim
 | some r=>rw[hv] at h;exact⟨r.1,r.2,rfl,h⟩
theorem ZAM {P:Program} {f:FuncId} {s b:Nat} (hf:Zyu P f 8 [.tmp 2] (ZwZ s) (Zpd s) (Zpe s b)) (hD:∀ C M nt,QJ P C→Wm P C M nt):YK P f (Zl6 s b):=by
 intro as1 h r hs hp;unfold Zl6 at hp;split at hp
 ·rename_i xs;split at hp
  ·rename_i hc;obtain⟨c1,c2,c3,c4⟩:=hc;cases hp
   let X:Fns:=fun _=>none
   let M:Zq:=fun _ _=>false
   have hX:Zh8 P X M:=⟨(fun f cf h=>by cases h),(fun f p h=>by cases h)⟩
   have hS:=ZeK hX (fun C nt hC=>hD C M nt hC);have w0:W X M (ZwZ s) { sl:=[(0,.d (.sl xs))],hp:=[],nx:=0,m:=0 } (fun e st=>e=.normal∧st = { sl:=[(0,.d (.sl xs))],hp:=[(0,.row s [] true false)],nx:=64,m:=0 }):=by
    unfold ZwZ;simp +contextual -implicitDefEqProofs (maxSteps:=10000000) only[go_sem,seval,↓gA,↓gB,↓gC,↓gD,↓gE,↓gF,↓gG]
   have w1:∀ b',(b'=true→xs=[])→W X M (.seq (.cond (.t 4) (Zpd s) .skip) (Zpe s b)) { sl:=Zs (Zs [(0,.d (.sl xs))] (some 3) (.d (.sl xs))) (some 4) (.d (.bool b')),hp:=[(0,.row s [] true false)],nx:=64+128,m:=0 } (fun e st=>Zdx 0 [.tmp 2] (some (e,st))=some (.own 0,[.row s xs true false])):=by
    intro b' aa;cases b' with
    | true=>
     have:=aa rfl;subst this;simp +contextual -implicitDefEqProofs (maxSteps:=10000000) only[Zpd,Zpe,go_sem,seval,↓gA,↓gB,↓gC,↓gD,↓gE,↓gF,↓gG];rfl
    | false=>
     simp +contextual -implicitDefEqProofs (maxSteps:=10000000) only[Zpd,Zpe,c1,c2,c3,c4,go_sem,seval,↓gA,↓gB,↓gC,↓gD,↓gE,↓gF,↓gG];exact⟨fun _=>rfl,fun h=>h ⟨c3,c4⟩⟩
   obtain⟨e0,st0,h0,rfl,rfl⟩:=ZAL w0;obtain⟨n0,h0⟩:=W3 X M h0;have pick:∀ b',(b'=true→xs=[])→∃ n,∀ m,n≤m→Zdx 0 [.tmp 2] (ZG (Qj X M m) M m (.seq (.cond (.t 4) (Zpd s) .skip) (Zpe s b)) { sl:=Zs (Zs [(0,.d (.sl xs))] (some 3) (.d (.sl xs))) (some 4) (.d (.bool b')),hp:=[(0,.row s [] true false)],nx:=64+128,m:=0 })=some (.own 0,[.row s xs true false]):=by
    intro b' aa;obtain⟨e1,st1,h1,h2⟩:=ZAL (w1 b' aa);obtain⟨n,hn⟩:=W3 X M h1;exact⟨n,fun m hm=>by rw[hn m hm];exact h2⟩
   obtain⟨nf,ab⟩:=pick false (by simp);by_cases hx:xs=[]
   ·obtain⟨nt,ad⟩:=pick true fun _=>hx;have m1:n0≤n0+nf+nt:=o_
    exact Zsr (hS (n0+nf+nt)) hf (hD _ M 8 (hS _)) o_ (h0 _ m1) rfl rfl fun b' aa=>by
     cases b' with
     | true=>exact ad _ o_
     | false=>exact ab _ o_
   ·have m1:n0≤n0+nf:=o_
    exact Zsr (hS (n0+nf)) hf (hD _ M 8 (hS _)) o_ (h0 _ m1) rfl rfl fun b' aa=>by
     cases b' with
     | true=>exact absurd (aa rfl) hx
     | false=>exact ab _ o_
  ·cases hp
 ·cases hp
end Go.Abs
namespace Go.Abs
open Go Go.Abs.E Go.Abs.L
theorem ZtZ {P:Program} {f:FuncId} {as1:List AV} {h:List Zk} {s n:Nat} {ys zs:List D} (hh:h.length≤1) (hz:ys.take n=zs) (hs:Zo7 P f as1 h (.ownv 1 0 n) [.gone,.row s ys true false]) :
  Zo7 P f as1 h (.own 1) [.gone,.row s zs true false]:=by
 subst hz;refine⟨hs.1,fun F A I Γ args w hp=>(hs.2 F A I Γ args w hp).mono fun e w' ⟨v,I',Γ',he,hb⟩=>?_⟩;obtain⟨a0,m,c,sz,a,h1,h2,h3,h4,h5,_⟩:=hb.res;obtain⟨a1,m1,c1,h6,h7⟩:=hb.objs 1 (.row s ys true false) rfl;rw[h1] at h6;cases h6;have h5:=h5 rfl;subst h5;have af:∀ i,i≠1→(fun i=>if i=1 then some (Ref.row a n c s) else Γ' i) i=Γ' i:=fun i hi=>by simp[hi]
 have aa:∀ i,Zz ((fun i=>if i=1 then some (Ref.row a n c s) else Γ' i) i)=Zz (Γ' i):=fun i=>by
  by_cases hi:i=1
  ·subst hi;simp only[Kl,h1];cases a<;>rfl
  ·rw[af i hi]
 have hl:∀ i o,lkp (VR 0 [Zk.gone,.row s (ys.take n) true false]) i=some o→∃ o',lkp (VR 0 [Zk.gone,.row s ys true false]) i=some o' ∧
   (∀ b,Blk (fun i=>if i=1 then some (Ref.row a n c s) else Γ' i) w' i o b→Blk Γ' w' i o' b)∧(i≠1→o'=o)∧(i=1→o=.row s (ys.take n) true false):=by
  intro i o ho;simp only[VR,Lm,KA,lkp] at ho ⊢;by_cases hi:i=1
  ·subst hi;simp at ho;subst ho;refine⟨.row s ys true false,by simp,fun b hB=>?_,fun h=>absurd rfl h,fun _=>rfl⟩;rcases hB with hB | hB
   ·exact .inl (by rw[ZA2] at hB ⊢;rw[← hB];exact(aa 1).symm)
   ·exact hB.elim False.elim False.elim
  ·have ab : ¬0+1=i:=fun e=>hi o_;simp only[Ke ab] at ho ⊢;split at ho
   ·rename_i h0;simp only[Kj h0];cases ho;refine⟨_,rfl,fun b hB=>?_,fun _=>rfl,fun h=>absurd h hi⟩;exact hB.isGone.elim
   ·cases ho
 refine⟨v,I',fun i=>if i=1 then some (.row a n c s) else Γ' i,he,{ heads:=fun id b hg=>?_,keeps:=hb.keeps,sub:=hb.sub,fr:=hb.fr,res:=⟨a,n,c,s,by simp,by simpa using h4⟩,objs:=?_,inj:=?_,bound:=hb.bound,names:=fun id ad=>?_ }⟩
 ·have:=hb.heads id b hg;by_cases hi:id=1
  ·subst hi;rw[hp.names 1 hh] at hg;cases hg
  ·simp only[Ke hi];exact this
 ·intro id o ho;obtain⟨o',e1,_,e2,e3⟩:=hl id o ho;by_cases hi:id=1
  ·subst hi;rw[e3 rfl];refine⟨a,n,c,by simp,?_,?_⟩
   ·have:=h7.1;simp;omega
   ·rcases h7.2 with ⟨k1,k2⟩ | ⟨g,q0,cur,e,k1,k2,k3,k4,k5,k6,k7,k8,k9,ae⟩
    ·exact .inl ⟨o_,k2⟩
    ·refine .inr ⟨g,q0,cur,e,k1,k2,k3,o_,k5,k6,k7,k8,k9,?_⟩;rw[X3] at ae ⊢;intro i x hx;rw[Lp] at hx;split at hx
     ·exact ae i x hx
     ·cases hx
  ·have:=hb.objs id o' e1;rw[e2 hi] at this;simp only[VR,Lm,KA,lkp] at ho;have ab : ¬0+1=id:=fun e=>hi o_;simp only[Ke ab] at ho;split at ho
   ·cases ho;obtain⟨r,q1⟩:=this;exact⟨r,by simp only[Ke hi];exact q1⟩
   ·cases ho
 ·intro i j o o' b hi hj ag ah;obtain⟨o1,e1,e2,_⟩:=hl i o hi;obtain⟨o2,e3,e4,_⟩:=hl j o' hj;exact hb.inj i j o1 o2 b e1 e3 (e2 b ag) (e4 b ah)
 ·have:=hb.names id ad;have hi:id≠1:=fun e=>by subst e;simp at ad
  simp only[Ke hi];exact this
open Classical in
noncomputable def Zh3 (s b:Nat) (z:D):List AV→List Zk→Option (AV×List Zk)
 | [.own 0,.d (.int .i64 i),.d (.int .i64 j)],[.row s' xs true false]=>if s'=s∧0≤i∧j=i+1∧i<xs.length∧uni s xs∧Xb xs∧z.cells.length=s∧z.flat=true then some (.own 1,[.gone,.row s (xs.eraseIdx i.toNat) true false]) else none
 | _,_=>none
def delF (s b:Nat) (z:D):Zr:=⟨33,[.tmp 6],.seq (.keep [2,1,0] (.region 1 none [⟨some 6,none,.assign (some s) (.v .nil),false⟩])) (.seq (.keep [2,1,0] (.region 6 none [⟨some 8,none,.move (.t 0),false⟩,⟨some 9,none,.move (.t 1),false⟩,⟨some 10,none,.move (.t 2),false⟩,⟨some 11,none,.move (.t 0),false⟩,⟨some 12,none,.len (.t 11),false⟩,⟨some 13,none,.slice3 s (.t 8) (.t 9) (.t 10) (.t 12),false⟩]))
 (.seq (.seq (.keep [16,2,1,0] (.region 3 none [⟨some 14,none,.move (.t 1),false⟩,⟨some 15,none,.move (.t 2),false⟩,⟨some 16,none,.bin .eql false (.t 14) (.t 15),false⟩])) (.cond (.t 16) (.seq (.keep [6] (.region 2 none [⟨some 17,none,.move (.t 0),false⟩,⟨some 6,none,.assign (some s) (.t 17),false⟩])) .ret) .skip))
 (.seq (.keep [7,2,1,0] (.region 3 none [⟨some 18,none,.move (.t 0),false⟩,⟨some 19,none,.len (.t 18),false⟩,⟨some 7,none,.assign none (.t 19),false⟩]))
 (.seq (.keep [7,0] (.region 8 (some []) [⟨some 20,none,.move (.t 0),false⟩,⟨some 21,none,.move (.t 1),false⟩,⟨some 22,none,.slice s (.t 20) none (some (.t 21)),false⟩,⟨some 23,none,.move (.t 0),false⟩,⟨some 24,none,.move (.t 2),false⟩,⟨some 25,none,.slice s (.t 23) (some (.t 24)) none,false⟩,⟨some 26,none,.append s b false true (.t 22) (.t 25),true⟩,⟨some 0,none,.assign (some s) (.t 26),false⟩]))
 (.seq (.keep [0] (.region 6 none [⟨some 27,none,.move (.t 0),false⟩,⟨some 28,none,.move (.t 0),false⟩,⟨some 29,none,.len (.t 28),false⟩,⟨some 30,none,.move (.t 7),false⟩,⟨some 31,none,.slice s (.t 27) (some (.t 29)) (some (.t 30)),false⟩,⟨none,none,.clear s z (.t 31),false⟩])) (.seq (.keep [6] (.region 2 none [⟨some 32,none,.move (.t 0),false⟩,⟨some 6,none,.assign (some s) (.t 32),false⟩])) .ret))))))⟩
theorem ZAN {s:Nat} {xs:List D} (n:Nat) (h:uni s xs):uni s (xs.drop n):=fun y hy=>h y (L3 hy)
theorem Zt0 {xs:List D} (n:Nat) (h:Xb xs):Xb (xs.drop n):=fun y hy=>h y (L3 hy)
theorem ZAO {f:Nat} {s b:Nat} {z:D} {M:Zq} {X:Fns} (hX:X f=some (.text (delF s b z))) {xs:List D} {i:Nat} (hi:i<xs.length) (hu:uni s xs) (hf:Xb xs) (hz:z.cells.length=s) (aa:z.flat=true) :
  ∃ r,Zd X M f [.own 0,.d (.int .i64 (i:Int)),.d (.int .i64 ((i:Int)+1))] [.row s xs true false]=some r∧∃ ys,r=(.ownv 1 0 (xs.length-1),[.gone,.row s ys true false])∧ys.take (xs.length-1)=xs.eraseIdx i:=by
 have h1:¬((i:Int)=(i:Int)+1):=o_
 have h2:(0:Int)≤(i:Int):=o_
 have h3:(i:Int)≤(i:Int)+1:=o_
 have h4:(i:Int)+1≤(xs.length:Int):=o_
 have h5:(0:Int)≤(i:Int)+1:=o_
 have h6:(i:Int)≤(xs.length:Int):=o_
 refine ZA1 X M (delF s b z) hX (by show 3≤33;decide) ?_;have q1:(List.take i xs).length=i:=by simp;omega
 have q2:(List.drop (i+1) xs).length=xs.length-(i+1):=by simp
 have c1:((i:Int)+1).toNat=i+1:=o_
 have t1:List.take (xs.length-(i+1)) (List.drop (i+1) xs)=List.drop (i+1) xs:=Kw (by simp);have q3:i+(xs.length-(i+1))=xs.length-1:=o_
 have q5:(List.drop (xs.length-1) xs).length=1:=by simp;omega
 have q6:xs.length-1+1=xs.length:=o_
 have q7:xs.length-(xs.length-1)=1:=o_
 have q8:0<xs.length:=o_
 have q9:xs.length-1≤xs.length:=o_
 have u1:=ZAN (i+1) hu;have f1:=Zt0 (i+1) hf;simp +contextual -implicitDefEqProofs (maxSteps:=10000000) only[delF,go_sem,seval,↓gA,↓gB,↓gC,↓gD,↓gE,↓gF,↓gG,Zod,h1,h2,h3,h4,h5,h6,c1,Ky,q1,q2,t1,q3,q5,q6,q7,q8,q9,u1,f1,hz,Nat.sub_zero,K8];have e1:(List.take i xs++List.drop (i+1) xs).length=xs.length-1:=by rw[Kr,q1,q2,q3]
 refine⟨_,rfl,?_⟩;rw[List.take_left' e1,Le,List.take_left' e1,List.eraseIdx_eq_take_drop_succ]
theorem Zzk {P:Program} {f:FuncId} {s b:Nat} {z:D} (hf:∃ fn,P.funcs[f]?=some fn∧(fn.name == "runtime.NumGoroutine")=false∧ZxA P fn=some (ZjN (delF s b z))) (hD:∀ C M nt,QJ P C→Wm P C M nt):YK P f (Zh3 s b z):=by
 intro as1 h r hs hp;unfold Zh3 at hp;split at hp
 ·rename_i i j s' xs;split at hp
  ·rename_i hc;obtain⟨c1,c2,c3,c4,c5,c6,c7,c8⟩:=hc;cases hp;subst c1 c3;obtain⟨n,rfl⟩:∃ n:Nat,i=(n:Int):=⟨i.toNat,o_⟩
   ·let X:Fns:=fun g=>if g=f then some (.text (delF s' b z)) else none
    let M:Zq:=fun _ _=>false
    have hX:Zh8 P X M:=⟨(fun g cf h=>by
     simp only[X] at h;split at h
     ·rename_i e;cases h;subst e;exact hf
     ·cases h),(fun g p h=>by
     simp only[X] at h;split at h<;>cases h)⟩
    have hS:=Zns hX (fun C nt hC=>hD C M nt hC);obtain⟨r,h1,ys,rfl,h2⟩:=ZAO (f:=f) (s:=s') (b:=b) (z:=z) (M:=M) (X:=X) (by simp[X]) (xs:=xs) (i:=n) o_ c5 c6 c7 c8;rw[Ky];exact ZtZ (by simp) h2 (hS _ _ _ _ _ h1)
  ·cases hp
 ·cases hp
end Go.Abs
