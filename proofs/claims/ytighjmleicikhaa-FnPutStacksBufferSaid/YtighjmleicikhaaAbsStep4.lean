/- Own text. -/
import Derived.Test.YtighjmleicikhaaAbsStep3
set_option linter.unusedVariables false
set_option linter.unusedSimpArgs false
namespace Go.Abs
open Go
section
variable {P:Program} {nt:Nat} {U:Nat→Prop} {F A I:Nat→Prop} {Γ:Gh} {sl:Sl} {hp:Hp} {a:Act} {w:World}
theorem Zdo:∀ (fs:List Field) (w:World),(∀ f∈fs,(P.info? f.type).isSome=true) →
  (fs.mapM (m:=Sem) fun f=>do pure (f.offset,← sizeOf f.type)).run P w=.ok (fs.map fun f=>(f.offset,P.cellsOf f.type)) w
 | [],w,_=>by simp
 | f :: fs,w,h=>by
  obtain⟨i,hi⟩:=KT.1 (h f (by simp));have ih:=Zdo fs w fun g hg=>h g (by simp[hg]);simp only[List.mapM_cons,Sem.run_bind,Qe hi,Result.andThen_ok,Sem.run_pure,ih,Ky]
theorem Zl2 {t:TypeId} {z:Value} (hz:VH P t=some z) (hf:ZbI P t=true) (hs:V7 Γ w I sl a) {ps:Array (Nat×Operand)} {qs:List (Nat×Nat×Opd)}
  (hq:ZY (ZiE (UR P t (Za2 P t))) ps.toList=some qs) {cs:List AV} (hv:Zdd (evC z).cells (evP sl qs)=some cs) :
  ∃ vs,(Instr.build t (ps.map fun x=>(x.1,a.eval x.2))).run P w=.ok (.agg vs) w∧Zl (QB Γ w I) cs vs.toList:=by
 unfold ZbI at hf;split at hf
 ·rename_i fs hu;have ha:Za2 P t=none:=by simp[Za2,hu]
  have aa:∀ i p,UR P t (Za2 P t) i=some p→(fs.map fun f=>(f.offset,P.cellsOf f.type))[i]?=some p:=by
   intro i p hp';rw[ha] at hp';simp only[UR] at hp';obtain⟨q,h1,h2⟩:=Za hp';cases h2;obtain⟨ad,x,h3,h4,h5,h6,_⟩:=Ju h1;rw[hu] at h3;cases h3;simp[h4,h5,h6]
  obtain⟨vs,h1,h2⟩:=Ze9 (place:=fun i=>(fs.map fun f=>(f.offset,P.cellsOf f.type))[i]?) aa hs hq (ZcF Γ w I z) hv;refine⟨vs,?_,h2⟩;have hm:(fs.mapM (m:=Sem) fun f=>do pure (f.offset,← sizeOf f.type)).run P w=.ok (fs.map fun f=>(f.offset,P.cellsOf f.type)) w:=by
   rw[Array.mapM_eq_mapM_toList,Sem.run_map,Zdo fs.toList w (fun f hm=>KF.1 hf f hm)];simp;apply Array.ext';simp
  have ab : Instr.fill (fun i=>(fs.map fun f=>(f.offset,P.cellsOf f.type))[i]?) z.cells (ps.map fun x=>(x.1,a.eval x.2)).toList=some vs:=by simpa using h1
  simp only[Instr.build,Sem.run_bind,Up hz,Result.andThen_ok,run_underlying hu,hm,ab];rfl
 ·rename_i n e hu;have ha:Za2 P t=some (n,e):=by simp[Za2,hu]
  obtain⟨i,hi⟩:=KT.1 hf;have aa:∀ j p,UR P t (Za2 P t) j=some p→(fun j=>some (j*P.cellsOf e,P.cellsOf e)) j=some p:=by
   intro j p hp';rw[ha] at hp';simpa [UR] using hp'
  obtain⟨vs,h1,h2⟩:=Ze9 aa hs hq (ZcF Γ w I z) hv;refine⟨vs,?_,h2⟩;have ab : Instr.fill (fun j=>some (j*P.cellsOf e,P.cellsOf e)) z.cells (ps.map fun x=>(x.1,a.eval x.2)).toList=some vs:=by simpa using h1
  simp only[Instr.build,Sem.run_bind,Up hz,Result.andThen_ok,run_underlying hu,Qe hi,ab];rfl
 ·cases hf
theorem Zj7 {o:Oper} {t:TypeId} {ps:Array (Nat×Operand)} {z:Value} {qs:List (Nat×Nat×Opd)} (ho:o.op=.build t ps) (hz:VH P t=some z) (hf:ZbI P t=true) (hs:V7 Γ w I sl a)
  (hq:ZY (ZiE (UR P t (Za2 P t))) ps.toList=some qs) {ce:Zb} (hv:ZeB (evC z).cells (evP sl qs)=some ce):QO P Γ I o a w ce:=by
 unfold ZeB at hv;obtain⟨cs,h1,h2⟩:=Za hv;obtain⟨vs,h3,h4⟩:=Zl2 hz hf hs hq h1;exact⟨.agg vs,_,.inl (by simp only[execOp,ho];simp[h3]),ZQ h2,Zah h4⟩
theorem Zl3 {x:AV} {v:Value} (ha:x.atom=true) (h:Rep Γ w I x v):Xc Γ w I x v:=by
 cases x<;>first | exact h | (simp[AV.atom] at ha;done) | skip
 rename_i d;exact⟨ha,(QL.one ha).1 (QF.1 h)⟩
theorem Zfa:∀ {xs:List AV} {vs:List Value},Zac xs=true→Zl (Rep Γ w I) xs vs→Zl (Xc Γ w I) xs vs
 | [],[],_,_=>trivial
 | [],_ :: _,_,h=>h.elim
 | _ :: _,[],_,h=>h.elim
 | x :: xs,v :: vs,ha,h=>by
  simp only[Zac,Kc] at ha;exact⟨Zl3 ha.1 h.1,Zfa ha.2 h.2⟩
theorem Zn5 {o:Oper} {f:FuncId} {fs cs:Array Operand} {ys:List Opd} (ho:o.op=.makeFunc (.func f) fs cs) (he:fs.toList.isEmpty=true) (hs:V7 Γ w I sl a) (hc:ZY ZA cs.toList=some ys) {ce:Zb}
  (hv:XN (cloV f (evL sl ys))=some ce):QO P Γ I o a w ce:=by
 obtain⟨r,h1,h2⟩:=opt1_some hv;unfold cloV at h1;split at h1
 ·rename_i ha;cases h1;have aa:fs = #[]:=by simpa using he
  refine⟨.func (.func f) #[] (cs.map a.eval),_,.inl (by simp[execOp,ho,Instr.makeFunc,aa]),h2,⟨_,rfl,?_⟩⟩;have:=Zfa ha (hs.evL hc);simpa using this
 ·cases h1
def V3 (Γ:Gh) (w:World) (I A:Nat→Prop) (hp:Hp) (ids:List Nat) (cl:Bool) (Q:(Nat→Prop)→Prop):Prop:=
 ∀ I' : Nat→Prop,(∀ b,I b→I' b)→(∀ id∈ids,∀ sz xs ex b,lkp hp id=some (.row sz xs ex false)→Zk (Γ id)=some b→I' b)→Q I'∧(cl=true→Q fun b=>I' b∧A b)
theorem Vs {I' : Nat→Prop} (h:∀ b,I b→I' b):Zw I I' w w:=⟨h,fun _ _=>rfl⟩
theorem Zl4 (h:Vk Γ w I F A hp) (aa:∀ b,F b→A b) {id:Nat} {q:List D×Bool} (he:Zbk (lkp hp id)=some q) :
  ∃ a n c sz,Γ id=some (.row a n c sz)∧V3 Γ w I A hp [id] q.2 fun S=>Zx w S (.sl q.1) [.slice a n c]:=by
 unfold Zbk at he;split at he
 ·rename_i sz xs ex fz hl;cases he;obtain⟨ad,n,c,h1,h2,h3⟩:=h id _ hl;refine⟨ad,n,c,sz,h1,fun I' hI hf=>?_⟩;rcases h3 with h3 | ⟨g,q0,cur,e,rfl,hc,hw,h4,h5,h6,h7,h8,ab,h9⟩
  ·have hx:xs=[]:=Kf (by omega);subst hx;have:∀ S,Zx w S (.sl []) [.slice ad n c]:=fun S=>⟨ad,c,by rw[h2],by simp,.inl rfl⟩
   exact⟨this _,fun _=>this _⟩
  ·have hg:I' g:=by
    cases fz
    ·exact hf id (by simp) sz xs ex g hl (by rw[h1];simp[Zk,Kp hc])
    ·exact hI g (by simpa using h8)
   refine⟨⟨_,c,by rw[h2],(show xs.length≤c by omega),.inr ⟨g,q0,sz,rfl,hg,h7,?_⟩⟩,fun ae=>?_⟩
   ·cases ex
    ·exact h9.mono' (Vs hI) rfl
    ·exact h9.mono' ⟨fun b hb=>hI b hb.1,fun _ _=>rfl⟩ rfl
   ·obtain rfl:ex=true:=ae;refine⟨_,c,by rw[h2],(show xs.length≤c by omega),.inr ⟨g,q0,sz,rfl,⟨hg,aa g ab⟩,h7,?_⟩⟩;simp only[Ki] at h9;exact h9.mono' ⟨fun b hb=>⟨hI b hb.1,hb.2⟩,fun _ _=>rfl⟩ rfl
 ·cases he
theorem ZiW (h:Vk Γ w I F A hp) (aa:∀ b,F b→A b) {x:AV} {v:Value} (hx:Rep Γ w I x v) {q:D×Bool×List Nat} (hg:V1 hp x=some q) :
  V3 Γ w I A hp q.2.2 q.2.1 fun S=>QL w S q.1 v:=by
 unfold V1 at hg;split at hg
 ·cases hg;have h1:=QF.1 hx;exact fun I' hI _=>⟨h1.mono (Vs hI),fun ab=>ZgD ab h1⟩
 ·cases hg;obtain⟨ad,rfl⟩:=hx;have:∀ S,QL w S (.sl []) (.slice ad 0 0):=fun S=>⟨ad,0,rfl,by simp,.inl rfl⟩
  exact fun I' hI _=>⟨this _,fun _=>this _⟩
 ·obtain⟨qq,h1,hg⟩:=Za hg;cases hg;obtain⟨ad,n,c,sz,h2,h3⟩:=Zl4 h aa h1;obtain⟨ae,n',c',af,h4,rfl⟩:=hx;rw[h2] at h4;cases h4;exact h3
 ·cases hg
theorem V3.more {ids aa : List Nat} {cl ad : Bool} {Q:(Nat→Prop)→Prop} (h:V3 Γ w I A hp ids cl Q) (hi:∀ id∈ids,id∈aa) (hc:ad=true→cl=true):V3 Γ w I A hp aa ad Q:=
 fun I' hI hf=>⟨(h I' hI fun id ab=>hf id (hi id ab)).1,fun ae=>(h I' hI fun id ab=>hf id (hi id ab)).2 (hc ae)⟩
theorem V3.and {ids:List Nat} {cl:Bool} {Q R S:(Nat→Prop)→Prop} (h:V3 Γ w I A hp ids cl Q) (k:V3 Γ w I A hp ids cl R) (hs:∀ I',Q I'→R I'→S I'):V3 Γ w I A hp ids cl S:=
 fun I' hI hf=>⟨hs _ (h I' hI hf).1 (k I' hI hf).1,fun aa=>hs _ ((h I' hI hf).2 aa) ((k I' hI hf).2 aa)⟩
theorem Zfb (h:Vk Γ w I F A hp) (ab:∀ b,F b→A b):∀ {xs:List AV} {vs:List Value},Zl (Xc Γ w I) xs vs→∀ {q:List D×Bool×List Nat},XE hp xs=some q →
  V3 Γ w I A hp q.2.2 q.2.1 fun S=>Qg w S q.1 vs
 | [],[],_,q,hg=>by
  simp only[XE] at hg;cases hg;exact fun I' hI hf=>⟨by simp[Qg],fun _=>by simp[Qg]⟩
 | [],_ :: _,h,_,_=>h.elim
 | _ :: _,[],h,_,_=>h.elim
 | x :: xs,v :: vs,hr,q,hg=>by
  simp only[XE] at hg;obtain⟨q1,h1,hg⟩:=Za hg;obtain⟨q2,h2,hg⟩:=Za hg;split at hg
  ·rename_i hc;cases hg;simp only[Kc] at hc;have e1:=ZiW h ab hr.1.rep2.rep h1;have e2:=Zfb h ab hr.2 h2;refine V3.and (e1.more (by simp;exact fun id aa=>.inl aa) (by simp;exact fun h _=>h)) (e2.more (by simp;exact fun id aa=>.inr aa) (by simp)) fun I' hq hr=>?_;exact⟨v,vs,rfl,hc.1,(QL.one hc.1).1 hq,hr⟩
  ·cases hg
theorem Zn6 (h:Vk Γ w I F A hp) (aa:∀ b,F b→A b) {x:AV} {v:Value} (hx:Rep Γ w I x v) {q:D×Bool×List Nat} (hg:give hp x=some q) :
  V3 Γ w I A hp q.2.2 q.2.1 fun S=>QL w S q.1 v:=by
 unfold give at hg;split at hg
 ·obtain⟨p,h1,hg⟩:=Za hg;cases hg;obtain⟨vs,rfl,h2⟩:=hx;have:=Zfb h aa h2 h1;exact fun I' hI hf=>⟨⟨vs,rfl,(this I' hI hf).1⟩,fun ab=>⟨vs,rfl,(this I' hI hf).2 ab⟩⟩
 ·exact ZiW h aa hx hg
theorem Zfc (h:Vk Γ w I F A hp) (ab:∀ b,F b→A b):∀ {xs:List AV} {vs:List Value},Zl (Rep Γ w I) xs vs→∀ {q:List D×Bool×List Nat},X8 hp xs=some q →
  V3 Γ w I A hp q.2.2 q.2.1 fun S=>Zl (QL w S) q.1 vs
 | [],[],_,q,hg=>by
  simp only[X8] at hg;cases hg;exact fun I' hI hf=>⟨trivial,fun _=>trivial⟩
 | [],_ :: _,h,_,_=>h.elim
 | _ :: _,[],h,_,_=>h.elim
 | x :: xs,v :: vs,hr,q,hg=>by
  simp only[X8] at hg;obtain⟨q1,h1,hg⟩:=Za hg;obtain⟨q2,h2,hg⟩:=Za hg;split at hg
  ·cases hg;have e1:=Zn6 h ab hr.1 h1;have e2:=Zfc h ab hr.2 h2;exact V3.and (e1.more (by simp;exact fun id aa=>.inl aa) (by simp;exact fun h _=>h)) (e2.more (by simp;exact fun id aa=>.inr aa) (by simp)) fun I' hq hr=>⟨hq,hr⟩
  ·cases hg
theorem V3.froze {ids:List Nat} {cl:Bool} {Q:(Nat→Prop)→Prop} (h:V3 Γ w I A hp ids cl Q) (hq:∀ S S' : Nat→Prop,(∀ b,S b→S' b)→Q S→Q S') :
  Q (if cl then fun b=>Qv Γ w hp I ids b∧A b else Qv Γ w hp I ids):=by
 have:=h (Qv Γ w hp I ids) (fun b hb=>.inl hb) fun id aa sz xs ex b hl hb=>.inr ⟨id,aa,_,hl,rfl,.inl hb⟩;cases cl
 ·exact this.1
 ·exact this.2 rfl
theorem Zdp:∀ (us vs:List Value) (off:Nat),(ZcG vs off us).length=vs.length
 | [],_,_=>rfl
 | u :: us,vs,off=>by simp[ZcG,Zdp us]
theorem ZiX:∀ (us vs:List Value) (off i:Nat),off+us.length≤vs.length→(ZcG vs off us)[i]?=if off≤i∧i<off+us.length then us[i-off]? else vs[i]?
 | [],vs,off,i,_=>by
  simp only[ZcG,Lm,Lq];rw[Kn (by omega)]
 | u :: us,vs,off,i,h=>by
  simp only[Kv] at h;simp only[ZcG];rw[ZiX us _ _ i (by simp;omega)];simp only[Kv];by_cases h1:i=off
  ·subst h1;rw[Kn (by omega),Kw (by omega)];have:i<vs.length:=by omega
   simp[this]
  ·by_cases h2:off+1≤i∧i<off+1+us.length
   ·rw[Kw h2,Kw (by omega)];have:i-off=(i-(off+1))+1:=by omega
    rw[this];simp
   ·rw[Kn h2,Kn (by omega)];rw[KI (by omega)]
theorem Zfd (sz:Nat):∀ (ps:List Value) (k:Nat) (vs:Array Value),(∀ v∈ps,v.cells.size=sz)→(k+ps.length)*sz≤vs.size →
  ∃ aa,Instr.fill (fun i=>some (i*sz,sz)) vs ((ps.zipIdx k).map fun x=>(x.2,x.1))=some aa∧aa.size=vs.size ∧
   (∀ i,i<k*sz→aa[i]?=vs[i]?)∧(∀ i,(k+ps.length)*sz≤i→aa[i]?=vs[i]?) ∧
   ∀ j u,((ps.map fun v=>v.cells.toList).flatten)[j]?=some u→aa[k*sz+j]?=some u
 | [],k,vs,_,_=>⟨vs,rfl,rfl,fun _ _=>rfl,fun _ _=>rfl,fun j u hu=>by simp at hu⟩
 | p :: ps,k,vs,hsz,hle=>by
  have hp:=hsz p (by simp);simp only[Kv] at hle;have ag:(k+1)*sz≤vs.size:=Ly (Kx _ (by omega)) hle;have af:(k+1)*sz=k*sz+sz:=by rw[KA];omega
  have ab:(p.cells.zipIdx.foldl (fun cs (x:Value×Nat)=>cs.setIfInBounds (k*sz+x.2) x.1) vs).toList=ZcG vs.toList (k*sz) p.cells.toList:=ZgG _ _ _;have ae:∀ i,(p.cells.zipIdx.foldl (fun cs (x:Value×Nat)=>cs.setIfInBounds (k*sz+x.2) x.1) vs)[i]?=if k*sz≤i∧i<k*sz+sz then p.cells[i-k*sz]? else vs[i]?:=by
   intro i;rw[← Lx,ab,ZiX _ _ _ _ (by simp[hp];omega)];simp[hp]
  have ad:(p.cells.zipIdx.foldl (fun cs (x:Value×Nat)=>cs.setIfInBounds (k*sz+x.2) x.1) vs).size=vs.size:=by
   rw[← K4,ab,Zdp];simp
  obtain⟨aa,h1,h2,h3,h4,h5⟩:=Zfd sz ps (k+1) (p.cells.zipIdx.foldl (fun cs (x:Value×Nat)=>cs.setIfInBounds (k*sz+x.2) x.1) vs) (fun v hv=>hsz v (by simp[hv])) (by rw[ad];rw[show k+1+ps.length=k+(ps.length+1) by omega];exact hle);refine⟨aa,?_,by rw[h2,ad],?_,?_,?_⟩
  ·simp only[List.zipIdx_cons,Ky,Instr.fill];have c1:¬(p.cells.size≠sz):=by simp[hp]
   have c2:¬(k*sz+p.cells.size>vs.size):=by rw[hp];omega
   simp only[c1,c2,decide_false,Bool.or_self,Ka,Kh];exact h1
  ·intro i hi;rw[h3 i (by omega),ae,Kn (by omega)]
  ·intro i hi;simp only[Kv] at hi;have:(k+1+ps.length)*sz≤i:=by rw[show k+1+ps.length=k+(ps.length+1) by omega];exact hi
   have h6:(k+1)*sz≤i:=Ly (Kx _ (by omega)) this;rw[h4 i this,ae,Kn (by omega)]
  ·intro j u hu;simp only[Ky,KS,LM,K4,hp] at hu;split at hu
   ·rename_i hj;have h6:aa[k*sz+j]?=(p.cells.zipIdx.foldl (fun cs (x:Value×Nat)=>cs.setIfInBounds (k*sz+x.2) x.1) vs)[k*sz+j]?:=h3 _ (by omega);rw[h6,ae,Kw (by omega)];have:k*sz+j-k*sz=j:=by omega
    rw[this];simpa using hu
   ·rename_i hj;have:=h5 (j-sz) u hu;rw[af] at this;have he:k*sz+sz+(j-sz)=k*sz+j:=by omega
    rw[← he];exact this
end
end Go.Abs
