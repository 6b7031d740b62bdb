/- The abstract semantics and the model: build,slices built,stores. Own text. -/
import Derived.Test.YtkdjbefmiiibpaaGreatDoorAbsStep3
set_option linter.unusedVariables false
set_option linter.unusedSimpArgs false
namespace Go.Abs
open Go
section
variable {P:Program} {nt:Nat} {U:Nat→Prop} {F A I:Nat→Prop} {Γ:Gh} {sl:Sl} {hp:Hp} {a:Act} {w:World}
theorem ZnH:∀ (fs:List Field) (w:World),(∀ f∈fs,(P.info? f.type).isSome=true) →
  (fs.mapM (m:=Sem) fun f=>do pure (f.offset,← sizeOf f.type)).run P w=.ok (fs.map fun f=>(f.offset,P.cellsOf f.type)) w
 | [],w,_=>by simp
 | f :: fs,w,h=>by
  obtain⟨i,hi⟩:=Option.isSome_iff_exists.1 (h f (by simp))
  have ih:=ZnH fs w fun g hg=>h g (by simp[hg])
  simp only[List.mapM_cons,Sem.run_bind,Xu hi,Result.andThen_ok,Sem.run_pure,ih,List.map_cons]
theorem ZzB {t:TypeId} {z:Value} (hz:Zdo P t=some z) (hf:Zly P t=true) (hs:Zdx Γ w I sl a) {ps:Array (Nat×Operand)} {qs:List (Nat×Nat×Opd)}
  (hq:Q6 (ZuS (Zhn P t (ZkE P t))) ps.toList=some qs) {cs:List AV} (hv:ZnA (evC z).cells (evP sl qs)=some cs) :
  ∃ vs,(Instr.build t (ps.map fun x=>(x.1,a.eval x.2))).run P w=.ok (.agg vs) w∧Zz (YA Γ w I) cs vs.toList:=by
 unfold Zly at hf
 split at hf
 ·rename_i fs hu
  have ha:ZkE P t=none:=by simp[ZkE,hu]
  have hpl:∀ i p,Zhn P t (ZkE P t) i=some p→(fs.map fun f=>(f.offset,P.cellsOf f.type))[i]?=some p:=by
   intro i p hp'
   rw[ha] at hp'
   simp only[Zhn] at hp'
   obtain⟨q,h1,h2⟩:=Za hp'
   cases h2
   obtain⟨fs',x,h3,h4,h5,h6,_⟩:=Ziw h1
   rw[hu] at h3;cases h3
   simp[h4,h5,h6]
  obtain⟨vs,h1,h2⟩:=ZpP (place:=fun i=>(fs.map fun f=>(f.offset,P.cellsOf f.type))[i]?) hpl hs hq (ZmX Γ w I z) hv
  refine⟨vs,?_,h2⟩
  have hm:(fs.mapM (m:=Sem) fun f=>do pure (f.offset,← sizeOf f.type)).run P w=.ok (fs.map fun f=>(f.offset,P.cellsOf f.type)) w:=by
   rw[Array.mapM_eq_mapM_toList,Sem.run_map,ZnH fs.toList w (fun f hm=>List.all_eq_true.1 hf f hm)]
   simp
   apply Array.ext'
   simp
  have h1' : Instr.fill (fun i=>(fs.map fun f=>(f.offset,P.cellsOf f.type))[i]?) z.cells (ps.map fun x=>(x.1,a.eval x.2)).toList=some vs:=by simpa using h1
  simp only[Instr.build,Sem.run_bind,Zgt hz,Result.andThen_ok,run_underlying hu,hm,h1']
  rfl
 ·rename_i n e hu
  have ha:ZkE P t=some (n,e):=by simp[ZkE,hu]
  obtain⟨i,hi⟩:=Option.isSome_iff_exists.1 hf
  have hpl:∀ j p,Zhn P t (ZkE P t) j=some p→(fun j=>some (j*P.cellsOf e,P.cellsOf e)) j=some p:=by
   intro j p hp'
   rw[ha] at hp'
   simpa [Zhn] using hp'
  obtain⟨vs,h1,h2⟩:=ZpP hpl hs hq (ZmX Γ w I z) hv
  refine⟨vs,?_,h2⟩
  have h1' : Instr.fill (fun j=>some (j*P.cellsOf e,P.cellsOf e)) z.cells (ps.map fun x=>(x.1,a.eval x.2)).toList=some vs:=by simpa using h1
  simp only[Instr.build,Sem.run_bind,Zgt hz,Result.andThen_ok,run_underlying hu,Xu hi,h1']
  rfl
 ·cases hf
theorem Zw7 {o:Oper} {t:TypeId} {ps:Array (Nat×Operand)} {z:Value} {qs:List (Nat×Nat×Opd)} (ho:o.op=.build t ps) (hz:Zdo P t=some z) (hf:Zly P t=true) (hs:Zdx Γ w I sl a)
  (hq:Q6 (ZuS (Zhn P t (ZkE P t))) ps.toList=some qs) {ce:Zc} (hv:Zpg (evC z).cells (evP sl qs)=some ce):Vk P Γ I o a w ce:=by
 unfold Zpg at hv
 obtain⟨cs,h1,h2⟩:=Za hv
 obtain⟨vs,h3,h4⟩:=ZzB hz hf hs hq h1
 exact⟨.agg vs,_,.inl (by simp only[execOp,ho];simp[h3]),QP h2,ZjF h4⟩
theorem ZzC {x:AV} {v:Value} (ha:x.atom=true) (h:Rep Γ w I x v):Wk Γ w I x v:=by
 cases x<;>first | exact h | (simp[AV.atom] at ha;done) | skip
 rename_i d
 exact⟨ha,(Yq.one ha).1 (Q5.1 h)⟩
theorem ZpQ:∀ {xs:List AV} {vs:List Value},Zjz xs=true→Zz (Rep Γ w I) xs vs→Zz (Wk Γ w I) xs vs
 | [],[],_,_=>trivial
 | [],_ :: _,_,h=>h.elim
 | _ :: _,[],_,h=>h.elim
 | x :: xs,v :: vs,ha,h=>by
  simp only[Zjz,Bool.and_eq_true] at ha
  exact⟨ZzC ha.1 h.1,ZpQ ha.2 h.2⟩
theorem ZDd {o:Oper} {f:FuncId} {fs cs:Array Operand} {ys:List Opd} (ho:o.op=.makeFunc (.func f) fs cs) (he:fs.toList.isEmpty=true) (hs:Zdx Γ w I sl a) (hc:Q6 Qd cs.toList=some ys) {ce:Zc}
  (hv:WL (cloV f (evL sl ys))=some ce):Vk P Γ I o a w ce:=by
 obtain⟨r,h1,h2⟩:=opt1_some hv
 unfold cloV at h1
 split at h1
 ·rename_i ha
  cases h1
  have hfs:fs = #[]:=by simpa using he
  refine⟨.func (.func f) #[] (cs.map a.eval),_,.inl (by simp[execOp,ho,Instr.makeFunc,hfs]),h2,⟨_,rfl,?_⟩⟩
  have:=ZpQ ha (hs.evL hc)
  simpa using this
 ·cases h1
def Zdr (Γ:Gh) (w:World) (I A:Nat→Prop) (hp:Hp) (ids:List Nat) (cl:Bool) (Q:(Nat→Prop)→Prop):Prop:=
 ∀ I' : Nat→Prop,(∀ b,I b→I' b)→(∀ id∈ids,∀ sz xs ex b,lkp hp id=some (.row sz xs ex false)→ZG (Γ id)=some b→I' b)→Q I'∧(cl=true→Q fun b=>I' b∧A b)
theorem ZbR {I' : Nat→Prop} (h:∀ b,I b→I' b):Z3 I I' w w:=⟨h,fun _ _=>rfl⟩
theorem ZzD (h:ZbH Γ w I F A hp) (hFA:∀ b,F b→A b) {id:Nat} {q:List D×Bool} (he:Zla (lkp hp id)=some q) :
  ∃ a n c sz,Γ id=some (.row a n c sz)∧Zdr Γ w I A hp [id] q.2 fun S=>Z2 w S (.sl q.1) [.slice a n c]:=by
 unfold Zla at he
 split at he
 ·rename_i sz xs ex fz hl
  cases he
  obtain⟨ad,n,c,h1,h2,h3⟩:=h id _ hl
  refine⟨ad,n,c,sz,h1,fun I' hI hf=>?_⟩
  rcases h3 with h3 | ⟨g,cur,e,rfl,hc,hw,h4,h5,h6,h7,h8,hFg,h9⟩
  ·have hx:xs=[]:=List.eq_nil_of_length_eq_zero (by omega)
   subst hx
   have:∀ S,Z2 w S (.sl []) [.slice ad n c]:=fun S=>⟨ad,c,by rw[h2],by simp,.inl rfl⟩
   exact⟨this _,fun _=>this _⟩
  ·have hg:I' g:=by
    cases fz
    ·exact hf id (by simp) sz xs ex g hl (by rw[h1];simp[ZG,Nat.ne_of_gt hc])
    ·exact hI g (by simpa using h8)
   refine⟨⟨_,c,by rw[h2],(show xs.length≤c by omega),.inr ⟨g,0,sz,rfl,hg,h7,?_⟩⟩,fun hcl=>?_⟩
   ·cases ex
    ·exact h9.mono' (ZbR hI) rfl
    ·exact h9.mono' ⟨fun b hb=>hI b hb.1,fun _ _=>rfl⟩ rfl
   ·obtain rfl:ex=true:=hcl
    refine⟨_,c,by rw[h2],(show xs.length≤c by omega),.inr ⟨g,0,sz,rfl,⟨hg,hFA g hFg⟩,h7,?_⟩⟩
    simp only[if_true] at h9
    exact h9.mono' ⟨fun b hb=>⟨hI b hb.1,hb.2⟩,fun _ _=>rfl⟩ rfl
 ·cases he
theorem Zu7 (h:ZbH Γ w I F A hp) (hFA:∀ b,F b→A b) {x:AV} {v:Value} (hx:Rep Γ w I x v) {q:D×Bool×List Nat} (hg:Zdl hp x=some q) :
  Zdr Γ w I A hp q.2.2 q.2.1 fun S=>Yq w S q.1 v:=by
 unfold Zdl at hg
 split at hg
 ·cases hg
  have h1:=Q5.1 hx
  exact fun I' hI _=>⟨h1.mono (ZbR hI),fun hcl=>Zsj hcl h1⟩
 ·cases hg
  obtain⟨ad,rfl⟩:=hx
  have:∀ S,Yq w S (.sl []) (.slice ad 0 0):=fun S=>⟨ad,0,rfl,by simp,.inl rfl⟩
  exact fun I' hI _=>⟨this _,fun _=>this _⟩
 ·obtain⟨qq,h1,hg⟩:=Za hg
  cases hg
  obtain⟨ad,n,c,sz,h2,h3⟩:=ZzD h hFA h1
  obtain⟨ad',n',c',sz',h4,rfl⟩:=hx
  rw[h2] at h4;cases h4
  exact h3
 ·cases hg
theorem Zdr.more {ids ids' : List Nat} {cl cl' : Bool} {Q:(Nat→Prop)→Prop} (h:Zdr Γ w I A hp ids cl Q) (hi:∀ id∈ids,id∈ids') (hc:cl'=true→cl=true):Zdr Γ w I A hp ids' cl' Q:=
 fun I' hI hf=>⟨(h I' hI fun id hid=>hf id (hi id hid)).1,fun hcl=>(h I' hI fun id hid=>hf id (hi id hid)).2 (hc hcl)⟩
theorem Zdr.and {ids:List Nat} {cl:Bool} {Q R S:(Nat→Prop)→Prop} (h:Zdr Γ w I A hp ids cl Q) (k:Zdr Γ w I A hp ids cl R) (hs:∀ I',Q I'→R I'→S I'):Zdr Γ w I A hp ids cl S:=
 fun I' hI hf=>⟨hs _ (h I' hI hf).1 (k I' hI hf).1,fun hcl=>hs _ ((h I' hI hf).2 hcl) ((k I' hI hf).2 hcl)⟩
theorem ZpR (h:ZbH Γ w I F A hp) (hFA:∀ b,F b→A b):∀ {xs:List AV} {vs:List Value},Zz (Wk Γ w I) xs vs→∀ {q:List D×Bool×List Nat},Uy hp xs=some q →
  Zdr Γ w I A hp q.2.2 q.2.1 fun S=>Yj w S q.1 vs
 | [],[],_,q,hg=>by
  simp only[Uy] at hg;cases hg
  exact fun I' hI hf=>⟨by simp[Yj],fun _=>by simp[Yj]⟩
 | [],_ :: _,h,_,_=>h.elim
 | _ :: _,[],h,_,_=>h.elim
 | x :: xs,v :: vs,hr,q,hg=>by
  simp only[Uy] at hg
  obtain⟨q1,h1,hg⟩:=Za hg
  obtain⟨q2,h2,hg⟩:=Za hg
  split at hg
  ·rename_i hc
   cases hg
   simp only[Bool.and_eq_true] at hc
   have e1:=Zu7 h hFA hr.1.rep2.rep h1
   have e2:=ZpR h hFA hr.2 h2
   refine Zdr.and (e1.more (by simp;exact fun id hid=>.inl hid) (by simp;exact fun h _=>h)) (e2.more (by simp;exact fun id hid=>.inr hid) (by simp)) fun I' hq hr=>?_
   exact⟨v,vs,rfl,hc.1,(Yq.one hc.1).1 hq,hr⟩
  ·cases hg
theorem ZDe (h:ZbH Γ w I F A hp) (hFA:∀ b,F b→A b) {x:AV} {v:Value} (hx:Rep Γ w I x v) {q:D×Bool×List Nat} (hg:give hp x=some q) :
  Zdr Γ w I A hp q.2.2 q.2.1 fun S=>Yq w S q.1 v:=by
 unfold give at hg
 split at hg
 ·obtain⟨p,h1,hg⟩:=Za hg
  cases hg
  obtain⟨vs,rfl,h2⟩:=hx
  have:=ZpR h hFA h2 h1
  exact fun I' hI hf=>⟨⟨vs,rfl,(this I' hI hf).1⟩,fun hcl=>⟨vs,rfl,(this I' hI hf).2 hcl⟩⟩
 ·exact Zu7 h hFA hx hg
theorem ZpS (h:ZbH Γ w I F A hp) (hFA:∀ b,F b→A b):∀ {xs:List AV} {vs:List Value},Zz (Rep Γ w I) xs vs→∀ {q:List D×Bool×List Nat},Jb hp xs=some q →
  Zdr Γ w I A hp q.2.2 q.2.1 fun S=>Zz (Yq w S) q.1 vs
 | [],[],_,q,hg=>by
  simp only[Jb] at hg;cases hg
  exact fun I' hI hf=>⟨trivial,fun _=>trivial⟩
 | [],_ :: _,h,_,_=>h.elim
 | _ :: _,[],h,_,_=>h.elim
 | x :: xs,v :: vs,hr,q,hg=>by
  simp only[Jb] at hg
  obtain⟨q1,h1,hg⟩:=Za hg
  obtain⟨q2,h2,hg⟩:=Za hg
  split at hg
  ·cases hg
   have e1:=ZDe h hFA hr.1 h1
   have e2:=ZpS h hFA hr.2 h2
   exact Zdr.and (e1.more (by simp;exact fun id hid=>.inl hid) (by simp;exact fun h _=>h)) (e2.more (by simp;exact fun id hid=>.inr hid) (by simp)) fun I' hq hr=>⟨hq,hr⟩
  ·cases hg
theorem Zdr.froze {ids:List Nat} {cl:Bool} {Q:(Nat→Prop)→Prop} (h:Zdr Γ w I A hp ids cl Q) (hq:∀ S S' : Nat→Prop,(∀ b,S b→S' b)→Q S→Q S') :
  Q (if cl then fun b=>Yp Γ w hp I ids b∧A b else Yp Γ w hp I ids):=by
 have:=h (Yp Γ w hp I ids) (fun b hb=>.inl hb) fun id hid sz xs ex b hl hb=>.inr ⟨id,hid,_,hl,rfl,.inl hb⟩
 cases cl
 ·exact this.1
 ·exact this.2 rfl
theorem ZnI:∀ (us vs:List Value) (off:Nat),(ZmY vs off us).length=vs.length
 | [],_,_=>rfl
 | u :: us,vs,off=>by simp[ZmY,ZnI us]
theorem Zu8:∀ (us vs:List Value) (off i:Nat),off+us.length≤vs.length→(ZmY vs off us)[i]?=if off≤i∧i<off+us.length then us[i-off]? else vs[i]?
 | [],vs,off,i,_=>by
  simp only[ZmY,List.length_nil,Nat.add_zero]
  rw[if_neg (by omega)]
 | u :: us,vs,off,i,h=>by
  simp only[List.length_cons] at h
  simp only[ZmY]
  rw[Zu8 us _ _ i (by simp;omega)]
  simp only[List.length_cons]
  by_cases h1:i=off
  ·subst h1
   rw[if_neg (by omega),if_pos (by omega)]
   have:i<vs.length:=by omega
   simp[this]
  ·by_cases h2:off+1≤i∧i<off+1+us.length
   ·rw[if_pos h2,if_pos (by omega)]
    have:i-off=(i-(off+1))+1:=by omega
    rw[this];simp
   ·rw[if_neg h2,if_neg (by omega)]
    rw[List.getElem?_set_ne (by omega)]
theorem ZpT (sz:Nat):∀ (ps:List Value) (k:Nat) (vs:Array Value),(∀ v∈ps,v.cells.size=sz)→(k+ps.length)*sz≤vs.size →
  ∃ vs',Instr.fill (fun i=>some (i*sz,sz)) vs ((ps.zipIdx k).map fun x=>(x.2,x.1))=some vs'∧vs'.size=vs.size ∧
   (∀ i,i<k*sz→vs'[i]?=vs[i]?)∧(∀ i,(k+ps.length)*sz≤i→vs'[i]?=vs[i]?) ∧
   ∀ j u,((ps.map fun v=>v.cells.toList).flatten)[j]?=some u→vs'[k*sz+j]?=some u
 | [],k,vs,_,_=>⟨vs,rfl,rfl,fun _ _=>rfl,fun _ _=>rfl,fun j u hu=>by simp at hu⟩
 | p :: ps,k,vs,hsz,hle=>by
  have hp:=hsz p (by simp)
  simp only[List.length_cons] at hle
  have hk1:(k+1)*sz≤vs.size:=Nat.le_trans (Nat.mul_le_mul_right _ (by omega)) hle
  have hk2:(k+1)*sz=k*sz+sz:=by rw[Nat.add_mul];omega
  have hlist:(p.cells.zipIdx.foldl (fun cs (x:Value×Nat)=>cs.setIfInBounds (k*sz+x.2) x.1) vs).toList=ZmY vs.toList (k*sz) p.cells.toList:=Zsm _ _ _
  have hget:∀ i,(p.cells.zipIdx.foldl (fun cs (x:Value×Nat)=>cs.setIfInBounds (k*sz+x.2) x.1) vs)[i]?=if k*sz≤i∧i<k*sz+sz then p.cells[i-k*sz]? else vs[i]?:=by
   intro i
   rw[← Array.getElem?_toList,hlist,Zu8 _ _ _ _ (by simp[hp];omega)]
   simp[hp]
  have hsize:(p.cells.zipIdx.foldl (fun cs (x:Value×Nat)=>cs.setIfInBounds (k*sz+x.2) x.1) vs).size=vs.size:=by
   rw[← Array.length_toList,hlist,ZnI];simp
  obtain⟨vs',h1,h2,h3,h4,h5⟩:=ZpT sz ps (k+1) (p.cells.zipIdx.foldl (fun cs (x:Value×Nat)=>cs.setIfInBounds (k*sz+x.2) x.1) vs) (fun v hv=>hsz v (by simp[hv])) (by rw[hsize];rw[show k+1+ps.length=k+(ps.length+1) by omega];exact hle)
  refine⟨vs',?_,by rw[h2,hsize],?_,?_,?_⟩
  ·simp only[List.zipIdx_cons,List.map_cons,Instr.fill]
   have c1:¬(p.cells.size≠sz):=by simp[hp]
   have c2:¬(k*sz+p.cells.size>vs.size):=by rw[hp];omega
   simp only[c1,c2,decide_false,Bool.or_self,Bool.false_eq_true,if_false]
   exact h1
  ·intro i hi
   rw[h3 i (by omega),hget,if_neg (by omega)]
  ·intro i hi
   simp only[List.length_cons] at hi
   have:(k+1+ps.length)*sz≤i:=by rw[show k+1+ps.length=k+(ps.length+1) by omega];exact hi
   have h6:(k+1)*sz≤i:=Nat.le_trans (Nat.mul_le_mul_right _ (by omega)) this
   rw[h4 i this,hget,if_neg (by omega)]
  ·intro j u hu
   simp only[List.map_cons,List.flatten_cons,List.getElem?_append,Array.length_toList,hp] at hu
   split at hu
   ·rename_i hj
    have h6:vs'[k*sz+j]?=(p.cells.zipIdx.foldl (fun cs (x:Value×Nat)=>cs.setIfInBounds (k*sz+x.2) x.1) vs)[k*sz+j]?:=h3 _ (by omega)
    rw[h6,hget,if_pos (by omega)]
    have:k*sz+j-k*sz=j:=by omega
    rw[this];simpa using hu
   ·rename_i hj
    have:=h5 (j-sz) u hu
    rw[hk2] at this
    have he:k*sz+sz+(j-sz)=k*sz+j:=by omega
    rw[← he];exact this
end
end Go.Abs
