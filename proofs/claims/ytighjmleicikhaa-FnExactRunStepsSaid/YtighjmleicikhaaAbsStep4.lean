/- Own text. -/
import Derived.Test.YtighjmleicikhaaAbsStep3
set_option linter.unusedVariables false
set_option linter.unusedSimpArgs false
namespace Go.Abs
open Go
section
variable {P:Program} {nt:Nat} {U:Nat→Prop} {F A I:Nat→Prop} {Γ:Gh} {sl:Sl} {hp:Hp} {a:Act} {w:World}
theorem Zfk:∀ (fs:List Field) (w:World),(∀ f∈fs,(P.info? f.type).isSome=true) →
  (fs.mapM (m:=Sem) fun f=>do pure (f.offset,← sizeOf f.type)).run P w=.ok (fs.map fun f=>(f.offset,P.cellsOf f.type)) w
 | [],w,_=>by simp
 | f :: fs,w,h=>by
  obtain⟨i,hi⟩:=KR.1 (h f (by simp));have ih:=Zfk fs w fun g hg=>h g (by simp[hg]);simp only[List.mapM_cons,Sem.run_bind,Qt hi,Result.andThen_ok,Sem.run_pure,ih,Kq]
theorem Zpm {t:TypeId} {z:Value} (hz:WK P t=some z) (hf:ZdE P t=true) (hs:W4 Γ w I sl a) {ps:Array (Nat×Operand)} {qs:List (Nat×Nat×Opd)}
  (hq:Z6 (ZlT (Zam P t (ZcV P t))) ps.toList=some qs) {cs:List AV} (hv:Ze9 (evC z).cells (evP sl qs)=some cs) :
  ∃ vs,(Instr.build t (ps.map fun x=>(x.1,a.eval x.2))).run P w=.ok (.agg vs) w∧Zn (QZ Γ w I) cs vs.toList:=by
 unfold ZdE at hf;split at hf
 ·rename_i fs hu;have ha:ZcV P t=none:=by simp[ZcV,hu]
  have aa:∀ i p,Zam P t (ZcV P t) i=some p→(fs.map fun f=>(f.offset,P.cellsOf f.type))[i]?=some p:=by
   intro i p hp';rw[ha] at hp';simp only[Zam] at hp';obtain⟨q,h1,h2⟩:=Za hp';cases h2;obtain⟨ad,x,h3,h4,h5,h6,_⟩:=Za9 h1;rw[hu] at h3;cases h3;simp[h4,h5,h6]
  obtain⟨vs,h1,h2⟩:=ZhD (place:=fun i=>(fs.map fun f=>(f.offset,P.cellsOf f.type))[i]?) aa hs hq (ZeJ Γ w I z) hv;refine⟨vs,?_,h2⟩;have hm:(fs.mapM (m:=Sem) fun f=>do pure (f.offset,← sizeOf f.type)).run P w=.ok (fs.map fun f=>(f.offset,P.cellsOf f.type)) w:=by
   rw[Array.mapM_eq_mapM_toList,Sem.run_map,Zfk fs.toList w (fun f hm=>Kx.1 hf f hm)];simp;apply Array.ext';simp
  have ab : Instr.fill (fun i=>(fs.map fun f=>(f.offset,P.cellsOf f.type))[i]?) z.cells (ps.map fun x=>(x.1,a.eval x.2)).toList=some vs:=by simpa using h1
  simp only[Instr.build,Sem.run_bind,JJ hz,Result.andThen_ok,run_underlying hu,hm,ab];rfl
 ·rename_i n e hu;have ha:ZcV P t=some (n,e):=by simp[ZcV,hu]
  obtain⟨i,hi⟩:=KR.1 hf;have aa:∀ j p,Zam P t (ZcV P t) j=some p→(fun j=>some (j*P.cellsOf e,P.cellsOf e)) j=some p:=by
   intro j p hp';rw[ha] at hp';simpa [Zam] using hp'
  obtain⟨vs,h1,h2⟩:=ZhD aa hs hq (ZeJ Γ w I z) hv;refine⟨vs,?_,h2⟩;have ab : Instr.fill (fun j=>some (j*P.cellsOf e,P.cellsOf e)) z.cells (ps.map fun x=>(x.1,a.eval x.2)).toList=some vs:=by simpa using h1
  simp only[Instr.build,Sem.run_bind,JJ hz,Result.andThen_ok,run_underlying hu,Qt hi,ab];rfl
 ·cases hf
theorem Znw {o:Oper} {t:TypeId} {ps:Array (Nat×Operand)} {z:Value} {qs:List (Nat×Nat×Opd)} (ho:o.op=.build t ps) (hz:WK P t=some z) (hf:ZdE P t=true) (hs:W4 Γ w I sl a)
  (hq:Z6 (ZlT (Zam P t (ZcV P t))) ps.toList=some qs) {ce:Zb} (hv:Zg8 (evC z).cells (evP sl qs)=some ce):Xh P Γ I o a w ce:=by
 unfold Zg8 at hv;obtain⟨cs,h1,h2⟩:=Za hv;obtain⟨vs,h3,h4⟩:=Zpm hz hf hs hq h1;exact⟨.agg vs,_,.inl (by simp only[execOp,ho];simp[h3]),ZX h2,ZbT h4⟩
theorem Zpn {x:AV} {v:Value} (ha:x.atom=true) (h:Rep Γ w I x v):Xy Γ w I x v:=by
 cases x<;>first | exact h | (simp[AV.atom] at ha;done) | skip
 rename_i d;exact⟨ha,(QH.one ha).1 (QQ.1 h)⟩
theorem ZhE:∀ {xs:List AV} {vs:List Value},ZbO xs=true→Zn (Rep Γ w I) xs vs→Zn (Xy Γ w I) xs vs
 | [],[],_,_=>trivial
 | [],_ :: _,_,h=>h.elim
 | _ :: _,[],_,h=>h.elim
 | x :: xs,v :: vs,ha,h=>by
  simp only[ZbO,Kb] at ha;exact⟨Zpn ha.1 h.1,ZhE ha.2 h.2⟩
theorem Zsc {o:Oper} {f:FuncId} {fs cs:Array Operand} {ys:List Opd} (ho:o.op=.makeFunc (.func f) fs cs) (he:fs.toList.isEmpty=true) (hs:W4 Γ w I sl a) (hc:Z6 ZE cs.toList=some ys) {ce:Zb}
  (hv:X2 (cloV f (evL sl ys))=some ce):Xh P Γ I o a w ce:=by
 obtain⟨r,h1,h2⟩:=opt1_some hv;unfold cloV at h1;split at h1
 ·rename_i ha;cases h1;have aa:fs = #[]:=by simpa using he
  refine⟨.func (.func f) #[] (cs.map a.eval),_,.inl (by simp[execOp,ho,Instr.makeFunc,aa]),h2,⟨_,rfl,?_⟩⟩;have:=ZhE ha (hs.evL hc);simpa using this
 ·cases h1
def WX (Γ:Gh) (w:World) (I A:Nat→Prop) (hp:Hp) (ids:List Nat) (cl:Bool) (Q:(Nat→Prop)→Prop):Prop:=
 ∀ I' : Nat→Prop,(∀ b,I b→I' b)→(∀ id∈ids,∀ sz xs ex b,lkp hp id=some (.row sz xs ex false)→Zp (Γ id)=some b→I' b)→Q I'∧(cl=true→Q fun b=>I' b∧A b)
theorem Wo {I' : Nat→Prop} (h:∀ b,I b→I' b):ZB I I' w w:=⟨h,fun _ _=>rfl⟩
theorem Zpo (h:Wc Γ w I F A hp) (aa:∀ b,F b→A b) {id:Nat} {q:List D×Bool} (he:Zdg (lkp hp id)=some q) :
  ∃ a n c sz,Γ id=some (.row a n c sz)∧WX Γ w I A hp [id] q.2 fun S=>ZA w S (.sl q.1) [.slice a n c]:=by
 unfold Zdg at he;split at he
 ·rename_i sz xs ex fz hl;cases he;obtain⟨ad,n,c,h1,h2,h3⟩:=h id _ hl;refine⟨ad,n,c,sz,h1,fun I' hI hf=>?_⟩;rcases h3 with h3 | ⟨g,cur,e,rfl,hc,hw,h4,h5,h6,h7,h8,ab,h9⟩
  ·have hx:xs=[]:=Ki (by omega);subst hx;have:∀ S,ZA w S (.sl []) [.slice ad n c]:=fun S=>⟨ad,c,by rw[h2],by simp,.inl rfl⟩
   exact⟨this _,fun _=>this _⟩
  ·have hg:I' g:=by
    cases fz
    ·exact hf id (by simp) sz xs ex g hl (by rw[h1];simp[Zp,Ks hc])
    ·exact hI g (by simpa using h8)
   refine⟨⟨_,c,by rw[h2],(show xs.length≤c by omega),.inr ⟨g,0,sz,rfl,hg,h7,?_⟩⟩,fun ae=>?_⟩
   ·cases ex
    ·exact h9.mono' (Wo hI) rfl
    ·exact h9.mono' ⟨fun b hb=>hI b hb.1,fun _ _=>rfl⟩ rfl
   ·obtain rfl:ex=true:=ae;refine⟨_,c,by rw[h2],(show xs.length≤c by omega),.inr ⟨g,0,sz,rfl,⟨hg,aa g ab⟩,h7,?_⟩⟩;simp only[Kh] at h9;exact h9.mono' ⟨fun b hb=>⟨hI b hb.1,hb.2⟩,fun _ _=>rfl⟩ rfl
 ·cases he
theorem Zma (h:Wc Γ w I F A hp) (aa:∀ b,F b→A b) {x:AV} {v:Value} (hx:Rep Γ w I x v) {q:D×Bool×List Nat} (hg:WV hp x=some q) :
  WX Γ w I A hp q.2.2 q.2.1 fun S=>QH w S q.1 v:=by
 unfold WV at hg;split at hg
 ·cases hg;have h1:=QQ.1 hx;exact fun I' hI _=>⟨h1.mono (Wo hI),fun ab=>Zjc ab h1⟩
 ·cases hg;obtain⟨ad,rfl⟩:=hx;have:∀ S,QH w S (.sl []) (.slice ad 0 0):=fun S=>⟨ad,0,rfl,by simp,.inl rfl⟩
  exact fun I' hI _=>⟨this _,fun _=>this _⟩
 ·obtain⟨qq,h1,hg⟩:=Za hg;cases hg;obtain⟨ad,n,c,sz,h2,h3⟩:=Zpo h aa h1;obtain⟨ae,n',c',af,h4,rfl⟩:=hx;rw[h2] at h4;cases h4;exact h3
 ·cases hg
theorem WX.more {ids aa : List Nat} {cl ad : Bool} {Q:(Nat→Prop)→Prop} (h:WX Γ w I A hp ids cl Q) (hi:∀ id∈ids,id∈aa) (hc:ad=true→cl=true):WX Γ w I A hp aa ad Q:=
 fun I' hI hf=>⟨(h I' hI fun id ab=>hf id (hi id ab)).1,fun ae=>(h I' hI fun id ab=>hf id (hi id ab)).2 (hc ae)⟩
theorem WX.and {ids:List Nat} {cl:Bool} {Q R S:(Nat→Prop)→Prop} (h:WX Γ w I A hp ids cl Q) (k:WX Γ w I A hp ids cl R) (hs:∀ I',Q I'→R I'→S I'):WX Γ w I A hp ids cl S:=
 fun I' hI hf=>⟨hs _ (h I' hI hf).1 (k I' hI hf).1,fun aa=>hs _ ((h I' hI hf).2 aa) ((k I' hI hf).2 aa)⟩
theorem ZhF (h:Wc Γ w I F A hp) (ab:∀ b,F b→A b):∀ {xs:List AV} {vs:List Value},Zn (Xy Γ w I) xs vs→∀ {q:List D×Bool×List Nat},X6 hp xs=some q →
  WX Γ w I A hp q.2.2 q.2.1 fun S=>Qg w S q.1 vs
 | [],[],_,q,hg=>by
  simp only[X6] at hg;cases hg;exact fun I' hI hf=>⟨by simp[Qg],fun _=>by simp[Qg]⟩
 | [],_ :: _,h,_,_=>h.elim
 | _ :: _,[],h,_,_=>h.elim
 | x :: xs,v :: vs,hr,q,hg=>by
  simp only[X6] at hg;obtain⟨q1,h1,hg⟩:=Za hg;obtain⟨q2,h2,hg⟩:=Za hg;split at hg
  ·rename_i hc;cases hg;simp only[Kb] at hc;have e1:=Zma h ab hr.1.rep2.rep h1;have e2:=ZhF h ab hr.2 h2;refine WX.and (e1.more (by simp;exact fun id aa=>.inl aa) (by simp;exact fun h _=>h)) (e2.more (by simp;exact fun id aa=>.inr aa) (by simp)) fun I' hq hr=>?_;exact⟨v,vs,rfl,hc.1,(QH.one hc.1).1 hq,hr⟩
  ·cases hg
theorem Zsd (h:Wc Γ w I F A hp) (aa:∀ b,F b→A b) {x:AV} {v:Value} (hx:Rep Γ w I x v) {q:D×Bool×List Nat} (hg:give hp x=some q) :
  WX Γ w I A hp q.2.2 q.2.1 fun S=>QH w S q.1 v:=by
 unfold give at hg;split at hg
 ·obtain⟨p,h1,hg⟩:=Za hg;cases hg;obtain⟨vs,rfl,h2⟩:=hx;have:=ZhF h aa h2 h1;exact fun I' hI hf=>⟨⟨vs,rfl,(this I' hI hf).1⟩,fun ab=>⟨vs,rfl,(this I' hI hf).2 ab⟩⟩
 ·exact Zma h aa hx hg
theorem ZhG (h:Wc Γ w I F A hp) (ab:∀ b,F b→A b):∀ {xs:List AV} {vs:List Value},Zn (Rep Γ w I) xs vs→∀ {q:List D×Bool×List Nat},YI hp xs=some q →
  WX Γ w I A hp q.2.2 q.2.1 fun S=>Zn (QH w S) q.1 vs
 | [],[],_,q,hg=>by
  simp only[YI] at hg;cases hg;exact fun I' hI hf=>⟨trivial,fun _=>trivial⟩
 | [],_ :: _,h,_,_=>h.elim
 | _ :: _,[],h,_,_=>h.elim
 | x :: xs,v :: vs,hr,q,hg=>by
  simp only[YI] at hg;obtain⟨q1,h1,hg⟩:=Za hg;obtain⟨q2,h2,hg⟩:=Za hg;split at hg
  ·cases hg;have e1:=Zsd h ab hr.1 h1;have e2:=ZhG h ab hr.2 h2;exact WX.and (e1.more (by simp;exact fun id aa=>.inl aa) (by simp;exact fun h _=>h)) (e2.more (by simp;exact fun id aa=>.inr aa) (by simp)) fun I' hq hr=>⟨hq,hr⟩
  ·cases hg
theorem WX.froze {ids:List Nat} {cl:Bool} {Q:(Nat→Prop)→Prop} (h:WX Γ w I A hp ids cl Q) (hq:∀ S S' : Nat→Prop,(∀ b,S b→S' b)→Q S→Q S') :
  Q (if cl then fun b=>QR Γ w hp I ids b∧A b else QR Γ w hp I ids):=by
 have:=h (QR Γ w hp I ids) (fun b hb=>.inl hb) fun id aa sz xs ex b hl hb=>.inr ⟨id,aa,_,hl,rfl,.inl hb⟩;cases cl
 ·exact this.1
 ·exact this.2 rfl
theorem Zfl:∀ (us vs:List Value) (off:Nat),(ZeK vs off us).length=vs.length
 | [],_,_=>rfl
 | u :: us,vs,off=>by simp[ZeK,Zfl us]
theorem Zmb:∀ (us vs:List Value) (off i:Nat),off+us.length≤vs.length→(ZeK vs off us)[i]?=if off≤i∧i<off+us.length then us[i-off]? else vs[i]?
 | [],vs,off,i,_=>by
  simp only[ZeK,KI,Ls];rw[Kp (by omega)]
 | u :: us,vs,off,i,h=>by
  simp only[Kk] at h;simp only[ZeK];rw[Zmb us _ _ i (by simp;omega)];simp only[Kk];by_cases h1:i=off
  ·subst h1;rw[Kp (by omega),Ku (by omega)];have:i<vs.length:=by omega
   simp[this]
  ·by_cases h2:off+1≤i∧i<off+1+us.length
   ·rw[Ku h2,Ku (by omega)];have:i-off=(i-(off+1))+1:=by omega
    rw[this];simp
   ·rw[Kp h2,Kp (by omega)];rw[KV (by omega)]
theorem ZhH (sz:Nat):∀ (ps:List Value) (k:Nat) (vs:Array Value),(∀ v∈ps,v.cells.size=sz)→(k+ps.length)*sz≤vs.size →
  ∃ aa,Instr.fill (fun i=>some (i*sz,sz)) vs ((ps.zipIdx k).map fun x=>(x.2,x.1))=some aa∧aa.size=vs.size ∧
   (∀ i,i<k*sz→aa[i]?=vs[i]?)∧(∀ i,(k+ps.length)*sz≤i→aa[i]?=vs[i]?) ∧
   ∀ j u,((ps.map fun v=>v.cells.toList).flatten)[j]?=some u→aa[k*sz+j]?=some u
 | [],k,vs,_,_=>⟨vs,rfl,rfl,fun _ _=>rfl,fun _ _=>rfl,fun j u hu=>by simp at hu⟩
 | p :: ps,k,vs,hsz,hle=>by
  have hp:=hsz p (by simp);simp only[Kk] at hle;have ag:(k+1)*sz≤vs.size:=Lc (Kz _ (by omega)) hle;have af:(k+1)*sz=k*sz+sz:=by rw[KC];omega
  have ab:(p.cells.zipIdx.foldl (fun cs (x:Value×Nat)=>cs.setIfInBounds (k*sz+x.2) x.1) vs).toList=ZeK vs.toList (k*sz) p.cells.toList:=Zjf _ _ _;have ae:∀ i,(p.cells.zipIdx.foldl (fun cs (x:Value×Nat)=>cs.setIfInBounds (k*sz+x.2) x.1) vs)[i]?=if k*sz≤i∧i<k*sz+sz then p.cells[i-k*sz]? else vs[i]?:=by
   intro i;rw[← Ly,ab,Zmb _ _ _ _ (by simp[hp];omega)];simp[hp]
  have ad:(p.cells.zipIdx.foldl (fun cs (x:Value×Nat)=>cs.setIfInBounds (k*sz+x.2) x.1) vs).size=vs.size:=by
   rw[← K3,ab,Zfl];simp
  obtain⟨aa,h1,h2,h3,h4,h5⟩:=ZhH sz ps (k+1) (p.cells.zipIdx.foldl (fun cs (x:Value×Nat)=>cs.setIfInBounds (k*sz+x.2) x.1) vs) (fun v hv=>hsz v (by simp[hv])) (by rw[ad];rw[show k+1+ps.length=k+(ps.length+1) by omega];exact hle);refine⟨aa,?_,by rw[h2,ad],?_,?_,?_⟩
  ·simp only[List.zipIdx_cons,Kq,Instr.fill];have c1:¬(p.cells.size≠sz):=by simp[hp]
   have c2:¬(k*sz+p.cells.size>vs.size):=by rw[hp];omega
   simp only[c1,c2,decide_false,Bool.or_self,Ka,Kg];exact h1
  ·intro i hi;rw[h3 i (by omega),ae,Kp (by omega)]
  ·intro i hi;simp only[Kk] at hi;have:(k+1+ps.length)*sz≤i:=by rw[show k+1+ps.length=k+(ps.length+1) by omega];exact hi
   have h6:(k+1)*sz≤i:=Lc (Kz _ (by omega)) this;rw[h4 i this,ae,Kp (by omega)]
  ·intro j u hu;simp only[Kq,KQ,LC,K3,hp] at hu;split at hu
   ·rename_i hj;have h6:aa[k*sz+j]?=(p.cells.zipIdx.foldl (fun cs (x:Value×Nat)=>cs.setIfInBounds (k*sz+x.2) x.1) vs)[k*sz+j]?:=h3 _ (by omega);rw[h6,ae,Ku (by omega)];have:k*sz+j-k*sz=j:=by omega
    rw[this];simpa using hu
   ·rename_i hj;have:=h5 (j-sz) u hu;rw[af] at this;have he:k*sz+sz+(j-sz)=k*sz+j:=by omega
    rw[← he];exact this
end
end Go.Abs
