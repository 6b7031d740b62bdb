/- Own text. -/
import Derived.Test.YtnachaiejoflhaaAbsStep3
set_option linter.unusedVariables false
set_option linter.unusedSimpArgs false
namespace Go.Abs
open Go
section
variable {P:Program} {nt:Nat} {U:Nat→Prop} {F A I:Nat→Prop} {Γ:Gh} {sl:Sl} {hp:Hp} {a:Act} {w:World}
theorem ZgE:∀ (fs:List Field) (w:World),(∀ f∈fs,(P.info? f.type).isSome=true) →
  (fs.mapM (m:=Sem) fun f=>do pure (f.offset,← sizeOf f.type)).run P w=.ok (fs.map fun f=>(f.offset,P.cellsOf f.type)) w
 | [],w,_=>by simp
 | f :: fs,w,h=>by
  obtain⟨i,hi⟩:=KP.1 (h f (by simp));have ih:=ZgE fs w fun g hg=>h g (by simp[hg]);simp only[List.mapM_cons,Sem.run_bind,Qw hi,Result.andThen_ok,Sem.run_pure,ih,Kx]
theorem Zrb {t:TypeId} {z:Value} (hz:W8 P t=some z) (hf:ZeO P t=true) (hs:UB Γ w I sl a) {ps:Array (Nat×Operand)} {qs:List (Nat×Nat×Opd)}
  (hq:Qa (Znj (Za2 P t (ZdZ P t))) ps.toList=some qs) {cs:List AV} (hv:Zgu (evC z).cells (evP sl qs)=some cs) :
  ∃ vs,(Instr.build t (ps.map fun x=>(x.1,a.eval x.2))).run P w=.ok (.agg vs) w∧Zp (QV Γ w I) cs vs.toList:=by
 unfold ZeO at hf;split at hf
 ·rename_i fs hu;have ha:ZdZ P t=none:=by simp[ZdZ,hu]
  have aa:∀ i p,Za2 P t (ZdZ P t) i=some p→(fs.map fun f=>(f.offset,P.cellsOf f.type))[i]?=some p:=by
   intro i p hp';rw[ha] at hp';simp only[Za2] at hp';obtain⟨q,h1,h2⟩:=Za hp';cases h2;obtain⟨ad,x,h3,h4,h5,h6,_⟩:=Zb3 h1;rw[hu] at h3;cases h3;simp[h4,h5,h6]
  obtain⟨vs,h1,h2⟩:=Ziy (place:=fun i=>(fs.map fun f=>(f.offset,P.cellsOf f.type))[i]?) aa hs hq (ZfS Γ w I z) hv;refine⟨vs,?_,h2⟩;have hm:(fs.mapM (m:=Sem) fun f=>do pure (f.offset,← sizeOf f.type)).run P w=.ok (fs.map fun f=>(f.offset,P.cellsOf f.type)) w:=by
   rw[Array.mapM_eq_mapM_toList,Sem.run_map,ZgE fs.toList w (fun f hm=>Kw.1 hf f hm)];simp;apply Array.ext';simp
  have ab : Instr.fill (fun i=>(fs.map fun f=>(f.offset,P.cellsOf f.type))[i]?) z.cells (ps.map fun x=>(x.1,a.eval x.2)).toList=some vs:=by simpa using h1
  simp only[Instr.build,Sem.run_bind,Zaw hz,Result.andThen_ok,run_underlying hu,hm,ab];rfl
 ·rename_i n e hu;have ha:ZdZ P t=some (n,e):=by simp[ZdZ,hu]
  obtain⟨i,hi⟩:=KP.1 hf;have aa:∀ j p,Za2 P t (ZdZ P t) j=some p→(fun j=>some (j*P.cellsOf e,P.cellsOf e)) j=some p:=by
   intro j p hp';rw[ha] at hp';simpa [Za2] using hp'
  obtain⟨vs,h1,h2⟩:=Ziy aa hs hq (ZfS Γ w I z) hv;refine⟨vs,?_,h2⟩;have ab : Instr.fill (fun j=>some (j*P.cellsOf e,P.cellsOf e)) z.cells (ps.map fun x=>(x.1,a.eval x.2)).toList=some vs:=by simpa using h1
  simp only[Instr.build,Sem.run_bind,Zaw hz,Result.andThen_ok,run_underlying hu,Qw hi,ab];rfl
 ·cases hf
theorem Zpk {o:Oper} {t:TypeId} {ps:Array (Nat×Operand)} {z:Value} {qs:List (Nat×Nat×Opd)} (ho:o.op=.build t ps) (hz:W8 P t=some z) (hf:ZeO P t=true) (hs:UB Γ w I sl a)
  (hq:Qa (Znj (Za2 P t (ZdZ P t))) ps.toList=some qs) {ce:Zb} (hv:Zh3 (evC z).cells (evP sl qs)=some ce):Q8 P Γ I o a w ce:=by
 unfold Zh3 at hv;obtain⟨cs,h1,h2⟩:=Za hv;obtain⟨vs,h3,h4⟩:=Zrb hz hf hs hq h1;exact⟨.agg vs,_,.inl (by simp only[execOp,ho];simp[h3]),Z3 h2,Zda h4⟩
theorem Zrc {x:AV} {v:Value} (ha:x.atom=true) (h:Rep Γ w I x v):XB Γ w I x v:=by
 cases x<;>first | exact h | (simp[AV.atom] at ha;done) | skip
 rename_i d;exact⟨ha,(QF.one ha).1 (QL.1 h)⟩
theorem Ziz:∀ {xs:List AV} {vs:List Value},Zc0 xs=true→Zp (Rep Γ w I) xs vs→Zp (XB Γ w I) xs vs
 | [],[],_,_=>trivial
 | [],_ :: _,_,h=>h.elim
 | _ :: _,[],_,h=>h.elim
 | x :: xs,v :: vs,ha,h=>by
  simp only[Zc0,Kb] at ha;exact⟨Zrc ha.1 h.1,Ziz ha.2 h.2⟩
theorem ZtD {o:Oper} {f:FuncId} {fs cs:Array Operand} {ys:List Opd} (ho:o.op=.makeFunc (.func f) fs cs) (he:fs.toList.isEmpty=true) (hs:UB Γ w I sl a) (hc:Qa ZL cs.toList=some ys) {ce:Zb}
  (hv:Yg (cloV f (evL sl ys))=some ce):Q8 P Γ I o a w ce:=by
 obtain⟨r,h1,h2⟩:=opt1_some hv;unfold cloV at h1;split at h1
 ·rename_i ha;cases h1;have aa:fs = #[]:=by simpa using he
  refine⟨.func (.func f) #[] (cs.map a.eval),_,.inl (by simp[execOp,ho,Instr.makeFunc,aa]),h2,⟨_,rfl,?_⟩⟩;have:=Ziz ha (hs.evL hc);simpa using this
 ·cases h1
def Uy (Γ:Gh) (w:World) (I A:Nat→Prop) (hp:Hp) (ids:List Nat) (cl:Bool) (Q:(Nat→Prop)→Prop):Prop:=
 ∀ I' : Nat→Prop,(∀ b,I b→I' b)→(∀ id∈ids,∀ sz xs ex b,lkp hp id=some (.row sz xs ex false)→Zt (Γ id)=some b→I' b)→Q I'∧(cl=true→Q fun b=>I' b∧A b)
theorem WT {I' : Nat→Prop} (h:∀ b,I b→I' b):ZH I I' w w:=⟨h,fun _ _=>rfl⟩
theorem Zrd (h:WK Γ w I F A hp) (aa:∀ b,F b→A b) {id:Nat} {q:List D×Bool} (he:Zer (lkp hp id)=some q) :
  ∃ a n c sz,Γ id=some (.row a n c sz)∧Uy Γ w I A hp [id] q.2 fun S=>ZF w S (.sl q.1) [.slice a n c]:=by
 unfold Zer at he;split at he
 ·rename_i sz xs ex fz hl;cases he;obtain⟨ad,n,c,h1,h2,h3⟩:=h id _ hl;refine⟨ad,n,c,sz,h1,fun I' hI hf=>?_⟩;rcases h3 with h3 | ⟨g,cur,e,rfl,hc,hw,h4,h5,h6,h7,h8,ab,h9⟩
  ·have hx:xs=[]:=Kh (by omega);subst hx;have:∀ S,ZF w S (.sl []) [.slice ad n c]:=fun S=>⟨ad,c,by rw[h2],by simp,.inl rfl⟩
   exact⟨this _,fun _=>this _⟩
  ·have hg:I' g:=by
    cases fz
    ·exact hf id (by simp) sz xs ex g hl (by rw[h1];simp[Zt,Kr hc])
    ·exact hI g (by simpa using h8)
   refine⟨⟨_,c,by rw[h2],(show xs.length≤c by omega),.inr ⟨g,0,sz,rfl,hg,h7,?_⟩⟩,fun ae=>?_⟩
   ·cases ex
    ·exact h9.mono' (WT hI) rfl
    ·exact h9.mono' ⟨fun b hb=>hI b hb.1,fun _ _=>rfl⟩ rfl
   ·obtain rfl:ex=true:=ae;refine⟨_,c,by rw[h2],(show xs.length≤c by omega),.inr ⟨g,0,sz,rfl,⟨hg,aa g ab⟩,h7,?_⟩⟩;simp only[Kj] at h9;exact h9.mono' ⟨fun b hb=>⟨hI b hb.1,hb.2⟩,fun _ _=>rfl⟩ rfl
 ·cases he
theorem ZnA (h:WK Γ w I F A hp) (aa:∀ b,F b→A b) {x:AV} {v:Value} (hx:Rep Γ w I x v) {q:D×Bool×List Nat} (hg:Uw hp x=some q) :
  Uy Γ w I A hp q.2.2 q.2.1 fun S=>QF w S q.1 v:=by
 unfold Uw at hg;split at hg
 ·cases hg;have h1:=QL.1 hx;exact fun I' hI _=>⟨h1.mono (WT hI),fun ab=>ZkW ab h1⟩
 ·cases hg;obtain⟨ad,rfl⟩:=hx;have:∀ S,QF w S (.sl []) (.slice ad 0 0):=fun S=>⟨ad,0,rfl,by simp,.inl rfl⟩
  exact fun I' hI _=>⟨this _,fun _=>this _⟩
 ·obtain⟨qq,h1,hg⟩:=Za hg;cases hg;obtain⟨ad,n,c,sz,h2,h3⟩:=Zrd h aa h1;obtain⟨ae,n',c',af,h4,rfl⟩:=hx;rw[h2] at h4;cases h4;exact h3
 ·cases hg
theorem Uy.more {ids aa : List Nat} {cl ad : Bool} {Q:(Nat→Prop)→Prop} (h:Uy Γ w I A hp ids cl Q) (hi:∀ id∈ids,id∈aa) (hc:ad=true→cl=true):Uy Γ w I A hp aa ad Q:=
 fun I' hI hf=>⟨(h I' hI fun id ab=>hf id (hi id ab)).1,fun ae=>(h I' hI fun id ab=>hf id (hi id ab)).2 (hc ae)⟩
theorem Uy.and {ids:List Nat} {cl:Bool} {Q R S:(Nat→Prop)→Prop} (h:Uy Γ w I A hp ids cl Q) (k:Uy Γ w I A hp ids cl R) (hs:∀ I',Q I'→R I'→S I'):Uy Γ w I A hp ids cl S:=
 fun I' hI hf=>⟨hs _ (h I' hI hf).1 (k I' hI hf).1,fun aa=>hs _ ((h I' hI hf).2 aa) ((k I' hI hf).2 aa)⟩
theorem ZiA (h:WK Γ w I F A hp) (ab:∀ b,F b→A b):∀ {xs:List AV} {vs:List Value},Zp (XB Γ w I) xs vs→∀ {q:List D×Bool×List Nat},Yi hp xs=some q →
  Uy Γ w I A hp q.2.2 q.2.1 fun S=>Qf w S q.1 vs
 | [],[],_,q,hg=>by
  simp only[Yi] at hg;cases hg;exact fun I' hI hf=>⟨by simp[Qf],fun _=>by simp[Qf]⟩
 | [],_ :: _,h,_,_=>h.elim
 | _ :: _,[],h,_,_=>h.elim
 | x :: xs,v :: vs,hr,q,hg=>by
  simp only[Yi] at hg;obtain⟨q1,h1,hg⟩:=Za hg;obtain⟨q2,h2,hg⟩:=Za hg;split at hg
  ·rename_i hc;cases hg;simp only[Kb] at hc;have e1:=ZnA h ab hr.1.rep2.rep h1;have e2:=ZiA h ab hr.2 h2;refine Uy.and (e1.more (by simp;exact fun id aa=>.inl aa) (by simp;exact fun h _=>h)) (e2.more (by simp;exact fun id aa=>.inr aa) (by simp)) fun I' hq hr=>?_;exact⟨v,vs,rfl,hc.1,(QF.one hc.1).1 hq,hr⟩
  ·cases hg
theorem ZtE (h:WK Γ w I F A hp) (aa:∀ b,F b→A b) {x:AV} {v:Value} (hx:Rep Γ w I x v) {q:D×Bool×List Nat} (hg:give hp x=some q) :
  Uy Γ w I A hp q.2.2 q.2.1 fun S=>QF w S q.1 v:=by
 unfold give at hg;split at hg
 ·obtain⟨p,h1,hg⟩:=Za hg;cases hg;obtain⟨vs,rfl,h2⟩:=hx;have:=ZiA h aa h2 h1;exact fun I' hI hf=>⟨⟨vs,rfl,(this I' hI hf).1⟩,fun ab=>⟨vs,rfl,(this I' hI hf).2 ab⟩⟩
 ·exact ZnA h aa hx hg
theorem ZiB (h:WK Γ w I F A hp) (ab:∀ b,F b→A b):∀ {xs:List AV} {vs:List Value},Zp (Rep Γ w I) xs vs→∀ {q:List D×Bool×List Nat},YT hp xs=some q →
  Uy Γ w I A hp q.2.2 q.2.1 fun S=>Zp (QF w S) q.1 vs
 | [],[],_,q,hg=>by
  simp only[YT] at hg;cases hg;exact fun I' hI hf=>⟨trivial,fun _=>trivial⟩
 | [],_ :: _,h,_,_=>h.elim
 | _ :: _,[],h,_,_=>h.elim
 | x :: xs,v :: vs,hr,q,hg=>by
  simp only[YT] at hg;obtain⟨q1,h1,hg⟩:=Za hg;obtain⟨q2,h2,hg⟩:=Za hg;split at hg
  ·cases hg;have e1:=ZtE h ab hr.1 h1;have e2:=ZiB h ab hr.2 h2;exact Uy.and (e1.more (by simp;exact fun id aa=>.inl aa) (by simp;exact fun h _=>h)) (e2.more (by simp;exact fun id aa=>.inr aa) (by simp)) fun I' hq hr=>⟨hq,hr⟩
  ·cases hg
theorem Uy.froze {ids:List Nat} {cl:Bool} {Q:(Nat→Prop)→Prop} (h:Uy Γ w I A hp ids cl Q) (hq:∀ S S' : Nat→Prop,(∀ b,S b→S' b)→Q S→Q S') :
  Q (if cl then fun b=>QM Γ w hp I ids b∧A b else QM Γ w hp I ids):=by
 have:=h (QM Γ w hp I ids) (fun b hb=>.inl hb) fun id aa sz xs ex b hl hb=>.inr ⟨id,aa,_,hl,rfl,.inl hb⟩;cases cl
 ·exact this.1
 ·exact this.2 rfl
theorem ZgF:∀ (us vs:List Value) (off:Nat),(ZfT vs off us).length=vs.length
 | [],_,_=>rfl
 | u :: us,vs,off=>by simp[ZfT,ZgF us]
theorem ZnB:∀ (us vs:List Value) (off i:Nat),off+us.length≤vs.length→(ZfT vs off us)[i]?=if off≤i∧i<off+us.length then us[i-off]? else vs[i]?
 | [],vs,off,i,_=>by
  simp only[ZfT,KY,Lt];rw[Kn (by omega)]
 | u :: us,vs,off,i,h=>by
  simp only[Kp] at h;simp only[ZfT];rw[ZnB us _ _ i (by simp;omega)];simp only[Kp];by_cases h1:i=off
  ·subst h1;rw[Kn (by omega),Kt (by omega)];have:i<vs.length:=by omega
   simp[this]
  ·by_cases h2:off+1≤i∧i<off+1+us.length
   ·rw[Kt h2,Kt (by omega)];have:i-off=(i-(off+1))+1:=by omega
    rw[this];simp
   ·rw[Kn h2,Kn (by omega)];rw[KR (by omega)]
theorem ZiC (sz:Nat):∀ (ps:List Value) (k:Nat) (vs:Array Value),(∀ v∈ps,v.cells.size=sz)→(k+ps.length)*sz≤vs.size →
  ∃ aa,Instr.fill (fun i=>some (i*sz,sz)) vs ((ps.zipIdx k).map fun x=>(x.2,x.1))=some aa∧aa.size=vs.size ∧
   (∀ i,i<k*sz→aa[i]?=vs[i]?)∧(∀ i,(k+ps.length)*sz≤i→aa[i]?=vs[i]?) ∧
   ∀ j u,((ps.map fun v=>v.cells.toList).flatten)[j]?=some u→aa[k*sz+j]?=some u
 | [],k,vs,_,_=>⟨vs,rfl,rfl,fun _ _=>rfl,fun _ _=>rfl,fun j u hu=>by simp at hu⟩
 | p :: ps,k,vs,hsz,hle=>by
  have hp:=hsz p (by simp);simp only[Kp] at hle;have ag:(k+1)*sz≤vs.size:=KD (Ky _ (by omega)) hle;have af:(k+1)*sz=k*sz+sz:=by rw[KA];omega
  have ab:(p.cells.zipIdx.foldl (fun cs (x:Value×Nat)=>cs.setIfInBounds (k*sz+x.2) x.1) vs).toList=ZfT vs.toList (k*sz) p.cells.toList:=ZkZ _ _ _;have ae:∀ i,(p.cells.zipIdx.foldl (fun cs (x:Value×Nat)=>cs.setIfInBounds (k*sz+x.2) x.1) vs)[i]?=if k*sz≤i∧i<k*sz+sz then p.cells[i-k*sz]? else vs[i]?:=by
   intro i;rw[← Lx,ab,ZnB _ _ _ _ (by simp[hp];omega)];simp[hp]
  have ad:(p.cells.zipIdx.foldl (fun cs (x:Value×Nat)=>cs.setIfInBounds (k*sz+x.2) x.1) vs).size=vs.size:=by
   rw[← KZ,ab,ZgF];simp
  obtain⟨aa,h1,h2,h3,h4,h5⟩:=ZiC sz ps (k+1) (p.cells.zipIdx.foldl (fun cs (x:Value×Nat)=>cs.setIfInBounds (k*sz+x.2) x.1) vs) (fun v hv=>hsz v (by simp[hv])) (by rw[ad];rw[show k+1+ps.length=k+(ps.length+1) by omega];exact hle);refine⟨aa,?_,by rw[h2,ad],?_,?_,?_⟩
  ·simp only[List.zipIdx_cons,Kx,Instr.fill];have c1:¬(p.cells.size≠sz):=by simp[hp]
   have c2:¬(k*sz+p.cells.size>vs.size):=by rw[hp];omega
   simp only[c1,c2,decide_false,Bool.or_self,Ka,Ki];exact h1
  ·intro i hi;rw[h3 i (by omega),ae,Kn (by omega)]
  ·intro i hi;simp only[Kp] at hi;have:(k+1+ps.length)*sz≤i:=by rw[show k+1+ps.length=k+(ps.length+1) by omega];exact hi
   have h6:(k+1)*sz≤i:=KD (Ky _ (by omega)) this;rw[h4 i this,ae,Kn (by omega)]
  ·intro j u hu;simp only[Kx,KN,LF,KZ,hp] at hu;split at hu
   ·rename_i hj;have h6:aa[k*sz+j]?=(p.cells.zipIdx.foldl (fun cs (x:Value×Nat)=>cs.setIfInBounds (k*sz+x.2) x.1) vs)[k*sz+j]?:=h3 _ (by omega);rw[h6,ae,Kt (by omega)];have:k*sz+j-k*sz=j:=by omega
    rw[this];simpa using hu
   ·rename_i hj;have:=h5 (j-sz) u hu;rw[af] at this;have he:k*sz+sz+(j-sz)=k*sz+j:=by omega
    rw[← he];exact this
end
end Go.Abs
