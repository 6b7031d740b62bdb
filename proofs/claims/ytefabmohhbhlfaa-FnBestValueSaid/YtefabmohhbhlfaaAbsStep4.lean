/- Own text. -/
import Derived.Test.YtefabmohhbhlfaaAbsStep3
set_option linter.unusedVariables false
set_option linter.unusedSimpArgs false
namespace Go.Abs
open Go
section
variable {P:Program} {nt:Nat} {U:Nat→Prop} {F A I:Nat→Prop} {Γ:Gh} {sl:Sl} {hp:Hp} {a:Act} {w:World}
theorem ZeP:∀ (fs:List Field) (w:World),(∀ f∈fs,(P.info? f.type).isSome=true) →
  (fs.mapM (m:=Sem) fun f=>do pure (f.offset,← sizeOf f.type)).run P w=.ok (fs.map fun f=>(f.offset,P.cellsOf f.type)) w
 | [],w,_=>by simp
 | f :: fs,w,h=>by
  obtain⟨i,hi⟩:=KY.1 (h f (by simp));have ih:=ZeP fs w fun g hg=>h g (by simp[hg]);simp only[List.mapM_cons,Sem.run_bind,Qm hi,Result.andThen_ok,Sem.run_pure,ih,Ko]
theorem Zoi {t:TypeId} {z:Value} (hz:WB P t=some z) (hf:ZcT P t=true) (hs:WV Γ w I sl a) {ps:Array (Nat×Operand)} {qs:List (Nat×Nat×Opd)}
  (hq:Z7 (Zk0 (JS P t (Zcb P t))) ps.toList=some qs) {cs:List AV} (hv:ZeE (evC z).cells (evP sl qs)=some cs) :
  ∃ vs,(Instr.build t (ps.map fun x=>(x.1,a.eval x.2))).run P w=.ok (.agg vs) w∧Zp (QP Γ w I) cs vs.toList:=by
 unfold ZcT at hf;split at hf
 ·rename_i fs hu;have ha:Zcb P t=none:=by simp[Zcb,hu]
  have aa:∀ i p,JS P t (Zcb P t) i=some p→(fs.map fun f=>(f.offset,P.cellsOf f.type))[i]?=some p:=by
   intro i p hp';rw[ha] at hp';simp only[JS] at hp';obtain⟨q,h1,h2⟩:=Za hp';cases h2;obtain⟨ad,x,h3,h4,h5,h6,_⟩:=Zax h1;rw[hu] at h3;cases h3;simp[h4,h5,h6]
  obtain⟨vs,h1,h2⟩:=ZgQ (place:=fun i=>(fs.map fun f=>(f.offset,P.cellsOf f.type))[i]?) aa hs hq (Zd5 Γ w I z) hv;refine⟨vs,?_,h2⟩;have hm:(fs.mapM (m:=Sem) fun f=>do pure (f.offset,← sizeOf f.type)).run P w=.ok (fs.map fun f=>(f.offset,P.cellsOf f.type)) w:=by
   rw[Array.mapM_eq_mapM_toList,Sem.run_map,ZeP fs.toList w (fun f hm=>KE.1 hf f hm)];simp;apply Array.ext';simp
  have ab : Instr.fill (fun i=>(fs.map fun f=>(f.offset,P.cellsOf f.type))[i]?) z.cells (ps.map fun x=>(x.1,a.eval x.2)).toList=some vs:=by simpa using h1
  simp only[Instr.build,Sem.run_bind,Jn hz,Result.andThen_ok,run_underlying hu,hm,ab];rfl
 ·rename_i n e hu;have ha:Zcb P t=some (n,e):=by simp[Zcb,hu]
  obtain⟨i,hi⟩:=KY.1 hf;have aa:∀ j p,JS P t (Zcb P t) j=some p→(fun j=>some (j*P.cellsOf e,P.cellsOf e)) j=some p:=by
   intro j p hp';rw[ha] at hp';simpa [JS] using hp'
  obtain⟨vs,h1,h2⟩:=ZgQ aa hs hq (Zd5 Γ w I z) hv;refine⟨vs,?_,h2⟩;have ab : Instr.fill (fun j=>some (j*P.cellsOf e,P.cellsOf e)) z.cells (ps.map fun x=>(x.1,a.eval x.2)).toList=some vs:=by simpa using h1
  simp only[Instr.build,Sem.run_bind,Jn hz,Result.andThen_ok,run_underlying hu,Qm hi,ab];rfl
 ·cases hf
theorem Zms {o:Oper} {t:TypeId} {ps:Array (Nat×Operand)} {z:Value} {qs:List (Nat×Nat×Opd)} (ho:o.op=.build t ps) (hz:WB P t=some z) (hf:ZcT P t=true) (hs:WV Γ w I sl a)
  (hq:Z7 (Zk0 (JS P t (Zcb P t))) ps.toList=some qs) {ce:Zb} (hv:Zge (evC z).cells (evP sl qs)=some ce):Q2 P Γ I o a w ce:=by
 unfold Zge at hv;obtain⟨cs,h1,h2⟩:=Za hv;obtain⟨vs,h3,h4⟩:=Zoi hz hf hs hq h1;exact⟨.agg vs,_,.inl (by simp only[execOp,ho];simp[h3]),ZX h2,Zbo h4⟩
theorem Zoj {x:AV} {v:Value} (ha:x.atom=true) (h:Rep Γ w I x v):Xj Γ w I x v:=by
 cases x<;>first | exact h | (simp[AV.atom] at ha;done) | skip
 rename_i d;exact⟨ha,(QV.one ha).1 (QB.1 h)⟩
theorem ZgR:∀ {xs:List AV} {vs:List Value},Zbj xs=true→Zp (Rep Γ w I) xs vs→Zp (Xj Γ w I) xs vs
 | [],[],_,_=>trivial
 | [],_ :: _,_,h=>h.elim
 | _ :: _,[],_,h=>h.elim
 | x :: xs,v :: vs,ha,h=>by
  simp only[Zbj,Kb] at ha;exact⟨Zoj ha.1 h.1,ZgR ha.2 h.2⟩
theorem ZqG {o:Oper} {f:FuncId} {fs cs:Array Operand} {ys:List Opd} (ho:o.op=.makeFunc (.func f) fs cs) (he:fs.toList.isEmpty=true) (hs:WV Γ w I sl a) (hc:Z7 ZI cs.toList=some ys) {ce:Zb}
  (hv:Yj (cloV f (evL sl ys))=some ce):Q2 P Γ I o a w ce:=by
 obtain⟨r,h1,h2⟩:=opt1_some hv;unfold cloV at h1;split at h1
 ·rename_i ha;cases h1;have aa:fs = #[]:=by simpa using he
  refine⟨.func (.func f) #[] (cs.map a.eval),_,.inl (by simp[execOp,ho,Instr.makeFunc,aa]),h2,⟨_,rfl,?_⟩⟩;have:=ZgR ha (hs.evL hc);simpa using this
 ·cases h1
def WS (Γ:Gh) (w:World) (I A:Nat→Prop) (hp:Hp) (ids:List Nat) (cl:Bool) (Q:(Nat→Prop)→Prop):Prop:=
 ∀ I' : Nat→Prop,(∀ b,I b→I' b)→(∀ id∈ids,∀ sz xs ex b,lkp hp id=some (.row sz xs ex false)→Zo (Γ id)=some b→I' b)→Q I'∧(cl=true→Q fun b=>I' b∧A b)
theorem Wk {I' : Nat→Prop} (h:∀ b,I b→I' b):ZB I I' w w:=⟨h,fun _ _=>rfl⟩
theorem Zok (h:V9 Γ w I F A hp) (aa:∀ b,F b→A b) {id:Nat} {q:List D×Bool} (he:Zcv (lkp hp id)=some q) :
  ∃ a n c sz,Γ id=some (.row a n c sz)∧WS Γ w I A hp [id] q.2 fun S=>ZG w S (.sl q.1) [.slice a n c]:=by
 unfold Zcv at he;split at he
 ·rename_i sz xs ex fz hl;cases he;obtain⟨ad,n,c,h1,h2,h3⟩:=h id _ hl;refine⟨ad,n,c,sz,h1,fun I' hI hf=>?_⟩;rcases h3 with h3 | ⟨g,q0,cur,e,rfl,hc,hw,h4,h5,h6,h7,h8,ab,h9⟩
  ·have hx:xs=[]:=Kh (by omega);subst hx;have:∀ S,ZG w S (.sl []) [.slice ad n c]:=fun S=>⟨ad,c,by rw[h2],by simp,.inl rfl⟩
   exact⟨this _,fun _=>this _⟩
  ·have hg:I' g:=by
    cases fz
    ·exact hf id (by simp) sz xs ex g hl (by rw[h1];simp[Zo,Ku hc])
    ·exact hI g (by simpa using h8)
   refine⟨⟨_,c,by rw[h2],(show xs.length≤c by omega),.inr ⟨g,q0,sz,rfl,hg,h7,?_⟩⟩,fun ae=>?_⟩
   ·cases ex
    ·exact h9.mono' (Wk hI) rfl
    ·exact h9.mono' ⟨fun b hb=>hI b hb.1,fun _ _=>rfl⟩ rfl
   ·obtain rfl:ex=true:=ae;refine⟨_,c,by rw[h2],(show xs.length≤c by omega),.inr ⟨g,q0,sz,rfl,⟨hg,aa g ab⟩,h7,?_⟩⟩;simp only[Kl] at h9;exact h9.mono' ⟨fun b hb=>⟨hI b hb.1,hb.2⟩,fun _ _=>rfl⟩ rfl
 ·cases he
theorem Zlk (h:V9 Γ w I F A hp) (aa:∀ b,F b→A b) {x:AV} {v:Value} (hx:Rep Γ w I x v) {q:D×Bool×List Nat} (hg:WP hp x=some q) :
  WS Γ w I A hp q.2.2 q.2.1 fun S=>QV w S q.1 v:=by
 unfold WP at hg;split at hg
 ·cases hg;have h1:=QB.1 hx;exact fun I' hI _=>⟨h1.mono (Wk hI),fun ab=>ZiZ ab h1⟩
 ·cases hg;obtain⟨ad,rfl⟩:=hx;have:∀ S,QV w S (.sl []) (.slice ad 0 0):=fun S=>⟨ad,0,rfl,by simp,.inl rfl⟩
  exact fun I' hI _=>⟨this _,fun _=>this _⟩
 ·obtain⟨qq,h1,hg⟩:=Za hg;cases hg;obtain⟨ad,n,c,sz,h2,h3⟩:=Zok h aa h1;obtain⟨ae,n',c',af,h4,rfl⟩:=hx;rw[h2] at h4;cases h4;exact h3
 ·cases hg
theorem WS.more {ids aa : List Nat} {cl ad : Bool} {Q:(Nat→Prop)→Prop} (h:WS Γ w I A hp ids cl Q) (hi:∀ id∈ids,id∈aa) (hc:ad=true→cl=true):WS Γ w I A hp aa ad Q:=
 fun I' hI hf=>⟨(h I' hI fun id ab=>hf id (hi id ab)).1,fun ae=>(h I' hI fun id ab=>hf id (hi id ab)).2 (hc ae)⟩
theorem WS.and {ids:List Nat} {cl:Bool} {Q R S:(Nat→Prop)→Prop} (h:WS Γ w I A hp ids cl Q) (k:WS Γ w I A hp ids cl R) (hs:∀ I',Q I'→R I'→S I'):WS Γ w I A hp ids cl S:=
 fun I' hI hf=>⟨hs _ (h I' hI hf).1 (k I' hI hf).1,fun aa=>hs _ ((h I' hI hf).2 aa) ((k I' hI hf).2 aa)⟩
theorem ZgS (h:V9 Γ w I F A hp) (ab:∀ b,F b→A b):∀ {xs:List AV} {vs:List Value},Zp (Xj Γ w I) xs vs→∀ {q:List D×Bool×List Nat},X7 hp xs=some q →
  WS Γ w I A hp q.2.2 q.2.1 fun S=>Qt w S q.1 vs
 | [],[],_,q,hg=>by
  simp only[X7] at hg;cases hg;exact fun I' hI hf=>⟨by simp[Qt],fun _=>by simp[Qt]⟩
 | [],_ :: _,h,_,_=>h.elim
 | _ :: _,[],h,_,_=>h.elim
 | x :: xs,v :: vs,hr,q,hg=>by
  simp only[X7] at hg;obtain⟨q1,h1,hg⟩:=Za hg;obtain⟨q2,h2,hg⟩:=Za hg;split at hg
  ·rename_i hc;cases hg;simp only[Kb] at hc;have e1:=Zlk h ab hr.1.rep2.rep h1;have e2:=ZgS h ab hr.2 h2;refine WS.and (e1.more (by simp;exact fun id aa=>.inl aa) (by simp;exact fun h _=>h)) (e2.more (by simp;exact fun id aa=>.inr aa) (by simp)) fun I' hq hr=>?_;exact⟨v,vs,rfl,hc.1,(QV.one hc.1).1 hq,hr⟩
  ·cases hg
theorem ZqH (h:V9 Γ w I F A hp) (aa:∀ b,F b→A b) {x:AV} {v:Value} (hx:Rep Γ w I x v) {q:D×Bool×List Nat} (hg:give hp x=some q) :
  WS Γ w I A hp q.2.2 q.2.1 fun S=>QV w S q.1 v:=by
 unfold give at hg;split at hg
 ·obtain⟨p,h1,hg⟩:=Za hg;cases hg;obtain⟨vs,rfl,h2⟩:=hx;have:=ZgS h aa h2 h1;exact fun I' hI hf=>⟨⟨vs,rfl,(this I' hI hf).1⟩,fun ab=>⟨vs,rfl,(this I' hI hf).2 ab⟩⟩
 ·exact Zlk h aa hx hg
theorem ZgT (h:V9 Γ w I F A hp) (ab:∀ b,F b→A b):∀ {xs:List AV} {vs:List Value},Zp (Rep Γ w I) xs vs→∀ {q:List D×Bool×List Nat},YG hp xs=some q →
  WS Γ w I A hp q.2.2 q.2.1 fun S=>Zp (QV w S) q.1 vs
 | [],[],_,q,hg=>by
  simp only[YG] at hg;cases hg;exact fun I' hI hf=>⟨trivial,fun _=>trivial⟩
 | [],_ :: _,h,_,_=>h.elim
 | _ :: _,[],h,_,_=>h.elim
 | x :: xs,v :: vs,hr,q,hg=>by
  simp only[YG] at hg;obtain⟨q1,h1,hg⟩:=Za hg;obtain⟨q2,h2,hg⟩:=Za hg;split at hg
  ·cases hg;have e1:=ZqH h ab hr.1 h1;have e2:=ZgT h ab hr.2 h2;exact WS.and (e1.more (by simp;exact fun id aa=>.inl aa) (by simp;exact fun h _=>h)) (e2.more (by simp;exact fun id aa=>.inr aa) (by simp)) fun I' hq hr=>⟨hq,hr⟩
  ·cases hg
theorem WS.froze {ids:List Nat} {cl:Bool} {Q:(Nat→Prop)→Prop} (h:WS Γ w I A hp ids cl Q) (hq:∀ S S' : Nat→Prop,(∀ b,S b→S' b)→Q S→Q S') :
  Q (if cl then fun b=>QI Γ w hp I ids b∧A b else QI Γ w hp I ids):=by
 have:=h (QI Γ w hp I ids) (fun b hb=>.inl hb) fun id aa sz xs ex b hl hb=>.inr ⟨id,aa,_,hl,rfl,.inl hb⟩;cases cl
 ·exact this.1
 ·exact this.2 rfl
theorem ZeQ:∀ (us vs:List Value) (off:Nat),(Zd6 vs off us).length=vs.length
 | [],_,_=>rfl
 | u :: us,vs,off=>by simp[Zd6,ZeQ us]
theorem Zll:∀ (us vs:List Value) (off i:Nat),off+us.length≤vs.length→(Zd6 vs off us)[i]?=if off≤i∧i<off+us.length then us[i-off]? else vs[i]?
 | [],vs,off,i,_=>by
  simp only[Zd6,KM,Lx];rw[Kp (by omega)]
 | u :: us,vs,off,i,h=>by
  simp only[Kk] at h;simp only[Zd6];rw[Zll us _ _ i (by simp;omega)];simp only[Kk];by_cases h1:i=off
  ·subst h1;rw[Kp (by omega),Kt (by omega)];have:i<vs.length:=by omega
   simp[this]
  ·by_cases h2:off+1≤i∧i<off+1+us.length
   ·rw[Kt h2,Kt (by omega)];have:i-off=(i-(off+1))+1:=by omega
    rw[this];simp
   ·rw[Kp h2,Kp (by omega)];rw[K0 (by omega)]
theorem ZgU (sz:Nat):∀ (ps:List Value) (k:Nat) (vs:Array Value),(∀ v∈ps,v.cells.size=sz)→(k+ps.length)*sz≤vs.size →
  ∃ aa,Instr.fill (fun i=>some (i*sz,sz)) vs ((ps.zipIdx k).map fun x=>(x.2,x.1))=some aa∧aa.size=vs.size ∧
   (∀ i,i<k*sz→aa[i]?=vs[i]?)∧(∀ i,(k+ps.length)*sz≤i→aa[i]?=vs[i]?) ∧
   ∀ j u,((ps.map fun v=>v.cells.toList).flatten)[j]?=some u→aa[k*sz+j]?=some u
 | [],k,vs,_,_=>⟨vs,rfl,rfl,fun _ _=>rfl,fun _ _=>rfl,fun j u hu=>by simp at hu⟩
 | p :: ps,k,vs,hsz,hle=>by
  have hp:=hsz p (by simp);simp only[Kk] at hle;have ag:(k+1)*sz≤vs.size:=Lv (Ky _ (by omega)) hle;have af:(k+1)*sz=k*sz+sz:=by rw[KA];omega
  have ab:(p.cells.zipIdx.foldl (fun cs (x:Value×Nat)=>cs.setIfInBounds (k*sz+x.2) x.1) vs).toList=Zd6 vs.toList (k*sz) p.cells.toList:=Zi2 _ _ _;have ae:∀ i,(p.cells.zipIdx.foldl (fun cs (x:Value×Nat)=>cs.setIfInBounds (k*sz+x.2) x.1) vs)[i]?=if k*sz≤i∧i<k*sz+sz then p.cells[i-k*sz]? else vs[i]?:=by
   intro i;rw[← LD,ab,Zll _ _ _ _ (by simp[hp];omega)];simp[hp]
  have ad:(p.cells.zipIdx.foldl (fun cs (x:Value×Nat)=>cs.setIfInBounds (k*sz+x.2) x.1) vs).size=vs.size:=by
   rw[← KN,ab,ZeQ];simp
  obtain⟨aa,h1,h2,h3,h4,h5⟩:=ZgU sz ps (k+1) (p.cells.zipIdx.foldl (fun cs (x:Value×Nat)=>cs.setIfInBounds (k*sz+x.2) x.1) vs) (fun v hv=>hsz v (by simp[hv])) (by rw[ad];rw[show k+1+ps.length=k+(ps.length+1) by omega];exact hle);refine⟨aa,?_,by rw[h2,ad],?_,?_,?_⟩
  ·simp only[List.zipIdx_cons,Ko,Instr.fill];have c1:¬(p.cells.size≠sz):=by simp[hp]
   have c2:¬(k*sz+p.cells.size>vs.size):=by rw[hp];omega
   simp only[c1,c2,decide_false,Bool.or_self,Ka,Kj];exact h1
  ·intro i hi;rw[h3 i (by omega),ae,Kp (by omega)]
  ·intro i hi;simp only[Kk] at hi;have:(k+1+ps.length)*sz≤i:=by rw[show k+1+ps.length=k+(ps.length+1) by omega];exact hi
   have h6:(k+1)*sz≤i:=Lv (Ky _ (by omega)) this;rw[h4 i this,ae,Kp (by omega)]
  ·intro j u hu;simp only[Ko,KR,L1,KN,hp] at hu;split at hu
   ·rename_i hj;have h6:aa[k*sz+j]?=(p.cells.zipIdx.foldl (fun cs (x:Value×Nat)=>cs.setIfInBounds (k*sz+x.2) x.1) vs)[k*sz+j]?:=h3 _ (by omega);rw[h6,ae,Kt (by omega)];have:k*sz+j-k*sz=j:=by omega
    rw[this];simpa using hu
   ·rename_i hj;have:=h5 (j-sz) u hu;rw[af] at this;have he:k*sz+sz+(j-sz)=k*sz+j:=by omega
    rw[← he];exact this
end
end Go.Abs
