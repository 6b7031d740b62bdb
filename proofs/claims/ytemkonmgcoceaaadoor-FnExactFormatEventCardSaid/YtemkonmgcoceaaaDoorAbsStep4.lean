/- The abstract semantics and the model: build,slices built,stores. Own text. -/
import Derived.Test.YtemkonmgcoceaaaDoorAbsStep3
set_option linter.unusedVariables false
set_option linter.unusedSimpArgs false
namespace Go.Abs
open Go
section
variable {P:Program} {nt:Nat} {U:Nat→Prop} {F A I:Nat→Prop} {Γ:Gh} {sl:Sl} {hp:Hp} {a:Act} {w:World}
theorem Zfp:∀ (fs:List Field) (w:World),(∀ f∈fs,(P.info? f.type).isSome=true) →
  (fs.mapM (m:=Sem) fun f=>do pure (f.offset,← sizeOf f.type)).run P w=.ok (fs.map fun f=>(f.offset,P.cellsOf f.type)) w
 | [],w,_=>by simp
 | f :: fs,w,h=>by
  obtain⟨i,hi⟩:=Option.isSome_iff_exists.1 (h f (by simp))
  have ih:=Zfp fs w fun g hg=>h g (by simp[hg])
  simp only[List.mapM_cons,Sem.run_bind,Qz hi,Result.andThen_ok,Sem.run_pure,ih,List.map_cons]
theorem Zoz {t:TypeId} {z:Value} (hz:W5 P t=some z) (hf:ZdK P t=true) (hs:Uc Γ w I sl a) {ps:Array (Nat×Operand)} {qs:List (Nat×Nat×Opd)}
  (hq:Qh (Zk3 (ZaC P t (ZcT P t))) ps.toList=some qs) {cs:List AV} (hv:Zfh (evC z).cells (evP sl qs)=some cs) :
  ∃ vs,(Instr.build t (ps.map fun x=>(x.1,a.eval x.2))).run P w=.ok (.agg vs) w∧Zm (Q0 Γ w I) cs vs.toList:=by
 unfold ZdK at hf
 split at hf
 ·rename_i fs hu
  have ha:ZcT P t=none:=by simp[ZcT,hu]
  have hpl:∀ i p,ZaC P t (ZcT P t) i=some p→(fs.map fun f=>(f.offset,P.cellsOf f.type))[i]?=some p:=by
   intro i p hp'
   rw[ha] at hp'
   simp only[ZaC] at hp'
   obtain⟨q,h1,h2⟩:=Za hp'
   cases h2
   obtain⟨fs',x,h3,h4,h5,h6,_⟩:=Zbp h1
   rw[hu] at h3;cases h3
   simp[h4,h5,h6]
  obtain⟨vs,h1,h2⟩:=Zhm (place:=fun i=>(fs.map fun f=>(f.offset,P.cellsOf f.type))[i]?) hpl hs hq (ZeJ Γ w I z) hv
  refine⟨vs,?_,h2⟩
  have hm:(fs.mapM (m:=Sem) fun f=>do pure (f.offset,← sizeOf f.type)).run P w=.ok (fs.map fun f=>(f.offset,P.cellsOf f.type)) w:=by
   rw[Array.mapM_eq_mapM_toList,Sem.run_map,Zfp fs.toList w (fun f hm=>List.all_eq_true.1 hf f hm)]
   simp
   apply Array.ext'
   simp
  have h1' : Instr.fill (fun i=>(fs.map fun f=>(f.offset,P.cellsOf f.type))[i]?) z.cells (ps.map fun x=>(x.1,a.eval x.2)).toList=some vs:=by simpa using h1
  simp only[Instr.build,Sem.run_bind,JZ hz,Result.andThen_ok,run_underlying hu,hm,h1']
  rfl
 ·rename_i n e hu
  have ha:ZcT P t=some (n,e):=by simp[ZcT,hu]
  obtain⟨i,hi⟩:=Option.isSome_iff_exists.1 hf
  have hpl:∀ j p,ZaC P t (ZcT P t) j=some p→(fun j=>some (j*P.cellsOf e,P.cellsOf e)) j=some p:=by
   intro j p hp'
   rw[ha] at hp'
   simpa [ZaC] using hp'
  obtain⟨vs,h1,h2⟩:=Zhm hpl hs hq (ZeJ Γ w I z) hv
  refine⟨vs,?_,h2⟩
  have h1' : Instr.fill (fun j=>some (j*P.cellsOf e,P.cellsOf e)) z.cells (ps.map fun x=>(x.1,a.eval x.2)).toList=some vs:=by simpa using h1
  simp only[Instr.build,Sem.run_bind,JZ hz,Result.andThen_ok,run_underlying hu,Qz hi,h1']
  rfl
 ·cases hf
theorem ZmN {o:Oper} {t:TypeId} {ps:Array (Nat×Operand)} {z:Value} {qs:List (Nat×Nat×Opd)} (ho:o.op=.build t ps) (hz:W5 P t=some z) (hf:ZdK P t=true) (hs:Uc Γ w I sl a)
  (hq:Qh (Zk3 (ZaC P t (ZcT P t))) ps.toList=some qs) {ce:Zb} (hv:ZgR (evC z).cells (evP sl qs)=some ce):Xn P Γ I o a w ce:=by
 unfold ZgR at hv
 obtain⟨cs,h1,h2⟩:=Za hv
 obtain⟨vs,h3,h4⟩:=Zoz hz hf hs hq h1
 exact⟨.agg vs,_,.inl (by simp only[execOp,ho];simp[h3]),Z8 h2,ZbZ h4⟩
theorem ZoA {x:AV} {v:Value} (ha:x.atom=true) (h:Rep Γ w I x v):XV Γ w I x v:=by
 cases x<;>first | exact h | (simp[AV.atom] at ha;done) | skip
 rename_i d
 exact⟨ha,(QD.one ha).1 (Z9.1 h)⟩
theorem Zhn:∀ {xs:List AV} {vs:List Value},ZbV xs=true→Zm (Rep Γ w I) xs vs→Zm (XV Γ w I) xs vs
 | [],[],_,_=>trivial
 | [],_ :: _,_,h=>h.elim
 | _ :: _,[],_,h=>h.elim
 | x :: xs,v :: vs,ha,h=>by
  simp only[ZbV,Bool.and_eq_true] at ha
  exact⟨ZoA ha.1 h.1,Zhn ha.2 h.2⟩
theorem ZqN {o:Oper} {f:FuncId} {fs cs:Array Operand} {ys:List Opd} (ho:o.op=.makeFunc (.func f) fs cs) (he:fs.toList.isEmpty=true) (hs:Uc Γ w I sl a) (hc:Qh ZL cs.toList=some ys) {ce:Zb}
  (hv:Yf (cloV f (evL sl ys))=some ce):Xn P Γ I o a w ce:=by
 obtain⟨r,h1,h2⟩:=opt1_some hv
 unfold cloV at h1
 split at h1
 ·rename_i ha
  cases h1
  have hfs:fs = #[]:=by simpa using he
  refine⟨.func (.func f) #[] (cs.map a.eval),_,.inl (by simp[execOp,ho,Instr.makeFunc,hfs]),h2,⟨_,rfl,?_⟩⟩
  have:=Zhn ha (hs.evL hc)
  simpa using this
 ·cases h1
def W8 (Γ:Gh) (w:World) (I A:Nat→Prop) (hp:Hp) (ids:List Nat) (cl:Bool) (Q:(Nat→Prop)→Prop):Prop:=
 ∀ I' : Nat→Prop,(∀ b,I b→I' b)→(∀ id∈ids,∀ sz xs ex b,lkp hp id=some (.row sz xs ex false)→Zq (Γ id)=some b→I' b)→Q I'∧(cl=true→Q fun b=>I' b∧A b)
theorem Wv {I' : Nat→Prop} (h:∀ b,I b→I' b):ZF I I' w w:=⟨h,fun _ _=>rfl⟩
theorem ZoB (h:Wl Γ w I F A hp) (hFA:∀ b,F b→A b) {id:Nat} {q:List D×Bool} (he:Zdm (lkp hp id)=some q) :
  ∃ a n c sz,Γ id=some (.row a n c sz)∧W8 Γ w I A hp [id] q.2 fun S=>ZD w S (.sl q.1) [.slice a n c]:=by
 unfold Zdm at he
 split at he
 ·rename_i sz xs ex fz hl
  cases he
  obtain⟨ad,n,c,h1,h2,h3⟩:=h id _ hl
  refine⟨ad,n,c,sz,h1,fun I' hI hf=>?_⟩
  rcases h3 with h3 | ⟨g,cur,e,rfl,hc,hw,h4,h5,h6,h7,h8,hFg,h9⟩
  ·have hx:xs=[]:=List.eq_nil_of_length_eq_zero (by omega)
   subst hx
   have:∀ S,ZD w S (.sl []) [.slice ad n c]:=fun S=>⟨ad,c,by rw[h2],by simp,.inl rfl⟩
   exact⟨this _,fun _=>this _⟩
  ·have hg:I' g:=by
    cases fz
    ·exact hf id (by simp) sz xs ex g hl (by rw[h1];simp[Zq,Nat.ne_of_gt hc])
    ·exact hI g (by simpa using h8)
   refine⟨⟨_,c,by rw[h2],(show xs.length≤c by omega),.inr ⟨g,0,sz,rfl,hg,h7,?_⟩⟩,fun hcl=>?_⟩
   ·cases ex
    ·exact h9.mono' (Wv hI) rfl
    ·exact h9.mono' ⟨fun b hb=>hI b hb.1,fun _ _=>rfl⟩ rfl
   ·obtain rfl:ex=true:=hcl
    refine⟨_,c,by rw[h2],(show xs.length≤c by omega),.inr ⟨g,0,sz,rfl,⟨hg,hFA g hFg⟩,h7,?_⟩⟩
    simp only[if_true] at h9
    exact h9.mono' ⟨fun b hb=>⟨hI b hb.1,hb.2⟩,fun _ _=>rfl⟩ rfl
 ·cases he
theorem Zll (h:Wl Γ w I F A hp) (hFA:∀ b,F b→A b) {x:AV} {v:Value} (hx:Rep Γ w I x v) {q:D×Bool×List Nat} (hg:W2 hp x=some q) :
  W8 Γ w I A hp q.2.2 q.2.1 fun S=>QD w S q.1 v:=by
 unfold W2 at hg
 split at hg
 ·cases hg
  have h1:=Z9.1 hx
  exact fun I' hI _=>⟨h1.mono (Wv hI),fun hcl=>ZiR hcl h1⟩
 ·cases hg
  obtain⟨ad,rfl⟩:=hx
  have:∀ S,QD w S (.sl []) (.slice ad 0 0):=fun S=>⟨ad,0,rfl,by simp,.inl rfl⟩
  exact fun I' hI _=>⟨this _,fun _=>this _⟩
 ·obtain⟨qq,h1,hg⟩:=Za hg
  cases hg
  obtain⟨ad,n,c,sz,h2,h3⟩:=ZoB h hFA h1
  obtain⟨ad',n',c',sz',h4,rfl⟩:=hx
  rw[h2] at h4;cases h4
  exact h3
 ·cases hg
theorem W8.more {ids ids' : List Nat} {cl cl' : Bool} {Q:(Nat→Prop)→Prop} (h:W8 Γ w I A hp ids cl Q) (hi:∀ id∈ids,id∈ids') (hc:cl'=true→cl=true):W8 Γ w I A hp ids' cl' Q:=
 fun I' hI hf=>⟨(h I' hI fun id hid=>hf id (hi id hid)).1,fun hcl=>(h I' hI fun id hid=>hf id (hi id hid)).2 (hc hcl)⟩
theorem W8.and {ids:List Nat} {cl:Bool} {Q R S:(Nat→Prop)→Prop} (h:W8 Γ w I A hp ids cl Q) (k:W8 Γ w I A hp ids cl R) (hs:∀ I',Q I'→R I'→S I'):W8 Γ w I A hp ids cl S:=
 fun I' hI hf=>⟨hs _ (h I' hI hf).1 (k I' hI hf).1,fun hcl=>hs _ ((h I' hI hf).2 hcl) ((k I' hI hf).2 hcl)⟩
theorem Zho (h:Wl Γ w I F A hp) (hFA:∀ b,F b→A b):∀ {xs:List AV} {vs:List Value},Zm (XV Γ w I) xs vs→∀ {q:List D×Bool×List Nat},Yq hp xs=some q →
  W8 Γ w I A hp q.2.2 q.2.1 fun S=>QA w S q.1 vs
 | [],[],_,q,hg=>by
  simp only[Yq] at hg;cases hg
  exact fun I' hI hf=>⟨by simp[QA],fun _=>by simp[QA]⟩
 | [],_ :: _,h,_,_=>h.elim
 | _ :: _,[],h,_,_=>h.elim
 | x :: xs,v :: vs,hr,q,hg=>by
  simp only[Yq] at hg
  obtain⟨q1,h1,hg⟩:=Za hg
  obtain⟨q2,h2,hg⟩:=Za hg
  split at hg
  ·rename_i hc
   cases hg
   simp only[Bool.and_eq_true] at hc
   have e1:=Zll h hFA hr.1.rep2.rep h1
   have e2:=Zho h hFA hr.2 h2
   refine W8.and (e1.more (by simp;exact fun id hid=>.inl hid) (by simp;exact fun h _=>h)) (e2.more (by simp;exact fun id hid=>.inr hid) (by simp)) fun I' hq hr=>?_
   exact⟨v,vs,rfl,hc.1,(QD.one hc.1).1 hq,hr⟩
  ·cases hg
theorem ZqO (h:Wl Γ w I F A hp) (hFA:∀ b,F b→A b) {x:AV} {v:Value} (hx:Rep Γ w I x v) {q:D×Bool×List Nat} (hg:give hp x=some q) :
  W8 Γ w I A hp q.2.2 q.2.1 fun S=>QD w S q.1 v:=by
 unfold give at hg
 split at hg
 ·obtain⟨p,h1,hg⟩:=Za hg
  cases hg
  obtain⟨vs,rfl,h2⟩:=hx
  have:=Zho h hFA h2 h1
  exact fun I' hI hf=>⟨⟨vs,rfl,(this I' hI hf).1⟩,fun hcl=>⟨vs,rfl,(this I' hI hf).2 hcl⟩⟩
 ·exact Zll h hFA hx hg
theorem Zhp (h:Wl Γ w I F A hp) (hFA:∀ b,F b→A b):∀ {xs:List AV} {vs:List Value},Zm (Rep Γ w I) xs vs→∀ {q:List D×Bool×List Nat},YS hp xs=some q →
  W8 Γ w I A hp q.2.2 q.2.1 fun S=>Zm (QD w S) q.1 vs
 | [],[],_,q,hg=>by
  simp only[YS] at hg;cases hg
  exact fun I' hI hf=>⟨trivial,fun _=>trivial⟩
 | [],_ :: _,h,_,_=>h.elim
 | _ :: _,[],h,_,_=>h.elim
 | x :: xs,v :: vs,hr,q,hg=>by
  simp only[YS] at hg
  obtain⟨q1,h1,hg⟩:=Za hg
  obtain⟨q2,h2,hg⟩:=Za hg
  split at hg
  ·cases hg
   have e1:=ZqO h hFA hr.1 h1
   have e2:=Zhp h hFA hr.2 h2
   exact W8.and (e1.more (by simp;exact fun id hid=>.inl hid) (by simp;exact fun h _=>h)) (e2.more (by simp;exact fun id hid=>.inr hid) (by simp)) fun I' hq hr=>⟨hq,hr⟩
  ·cases hg
theorem W8.froze {ids:List Nat} {cl:Bool} {Q:(Nat→Prop)→Prop} (h:W8 Γ w I A hp ids cl Q) (hq:∀ S S' : Nat→Prop,(∀ b,S b→S' b)→Q S→Q S') :
  Q (if cl then fun b=>QT Γ w hp I ids b∧A b else QT Γ w hp I ids):=by
 have:=h (QT Γ w hp I ids) (fun b hb=>.inl hb) fun id hid sz xs ex b hl hb=>.inr ⟨id,hid,_,hl,rfl,.inl hb⟩
 cases cl
 ·exact this.1
 ·exact this.2 rfl
theorem Zfq:∀ (us vs:List Value) (off:Nat),(ZeK vs off us).length=vs.length
 | [],_,_=>rfl
 | u :: us,vs,off=>by simp[ZeK,Zfq us]
theorem Zlm:∀ (us vs:List Value) (off i:Nat),off+us.length≤vs.length→(ZeK vs off us)[i]?=if off≤i∧i<off+us.length then us[i-off]? else vs[i]?
 | [],vs,off,i,_=>by
  simp only[ZeK,List.length_nil,Nat.add_zero]
  rw[if_neg (by omega)]
 | u :: us,vs,off,i,h=>by
  simp only[List.length_cons] at h
  simp only[ZeK]
  rw[Zlm us _ _ i (by simp;omega)]
  simp only[List.length_cons]
  by_cases h1:i=off
  ·subst h1
   rw[if_neg (by omega),if_pos (by omega)]
   have:i<vs.length:=by omega
   simp[this]
  ·by_cases h2:off+1≤i∧i<off+1+us.length
   ·rw[if_pos h2,if_pos (by omega)]
    have:i-off=(i-(off+1))+1:=by omega
    rw[this];simp
   ·rw[if_neg h2,if_neg (by omega)]
    rw[List.getElem?_set_ne (by omega)]
theorem Zhq (sz:Nat):∀ (ps:List Value) (k:Nat) (vs:Array Value),(∀ v∈ps,v.cells.size=sz)→(k+ps.length)*sz≤vs.size →
  ∃ vs',Instr.fill (fun i=>some (i*sz,sz)) vs ((ps.zipIdx k).map fun x=>(x.2,x.1))=some vs'∧vs'.size=vs.size ∧
   (∀ i,i<k*sz→vs'[i]?=vs[i]?)∧(∀ i,(k+ps.length)*sz≤i→vs'[i]?=vs[i]?) ∧
   ∀ j u,((ps.map fun v=>v.cells.toList).flatten)[j]?=some u→vs'[k*sz+j]?=some u
 | [],k,vs,_,_=>⟨vs,rfl,rfl,fun _ _=>rfl,fun _ _=>rfl,fun j u hu=>by simp at hu⟩
 | p :: ps,k,vs,hsz,hle=>by
  have hp:=hsz p (by simp)
  simp only[List.length_cons] at hle
  have hk1:(k+1)*sz≤vs.size:=Nat.le_trans (Nat.mul_le_mul_right _ (by omega)) hle
  have hk2:(k+1)*sz=k*sz+sz:=by rw[Nat.add_mul];omega
  have hlist:(p.cells.zipIdx.foldl (fun cs (x:Value×Nat)=>cs.setIfInBounds (k*sz+x.2) x.1) vs).toList=ZeK vs.toList (k*sz) p.cells.toList:=ZiU _ _ _
  have hget:∀ i,(p.cells.zipIdx.foldl (fun cs (x:Value×Nat)=>cs.setIfInBounds (k*sz+x.2) x.1) vs)[i]?=if k*sz≤i∧i<k*sz+sz then p.cells[i-k*sz]? else vs[i]?:=by
   intro i
   rw[← Array.getElem?_toList,hlist,Zlm _ _ _ _ (by simp[hp];omega)]
   simp[hp]
  have hsize:(p.cells.zipIdx.foldl (fun cs (x:Value×Nat)=>cs.setIfInBounds (k*sz+x.2) x.1) vs).size=vs.size:=by
   rw[← Array.length_toList,hlist,Zfq];simp
  obtain⟨vs',h1,h2,h3,h4,h5⟩:=Zhq sz ps (k+1) (p.cells.zipIdx.foldl (fun cs (x:Value×Nat)=>cs.setIfInBounds (k*sz+x.2) x.1) vs) (fun v hv=>hsz v (by simp[hv])) (by rw[hsize];rw[show k+1+ps.length=k+(ps.length+1) by omega];exact hle)
  refine⟨vs',?_,by rw[h2,hsize],?_,?_,?_⟩
  ·simp only[List.zipIdx_cons,List.map_cons,Instr.fill]
   have c1:¬(p.cells.size≠sz):=by simp[hp]
   have c2:¬(k*sz+p.cells.size>vs.size):=by rw[hp];omega
   simp only[c1,c2,decide_false,Bool.or_self,Bool.false_eq_true,if_false]
   exact h1
  ·intro i hi
   rw[h3 i (by omega),hget,if_neg (by omega)]
  ·intro i hi
   simp only[List.length_cons] at hi
   have:(k+1+ps.length)*sz≤i:=by rw[show k+1+ps.length=k+(ps.length+1) by omega];exact hi
   have h6:(k+1)*sz≤i:=Nat.le_trans (Nat.mul_le_mul_right _ (by omega)) this
   rw[h4 i this,hget,if_neg (by omega)]
  ·intro j u hu
   simp only[List.map_cons,List.flatten_cons,List.getElem?_append,Array.length_toList,hp] at hu
   split at hu
   ·rename_i hj
    have h6:vs'[k*sz+j]?=(p.cells.zipIdx.foldl (fun cs (x:Value×Nat)=>cs.setIfInBounds (k*sz+x.2) x.1) vs)[k*sz+j]?:=h3 _ (by omega)
    rw[h6,hget,if_pos (by omega)]
    have:k*sz+j-k*sz=j:=by omega
    rw[this];simpa using hu
   ·rename_i hj
    have:=h5 (j-sz) u hu
    rw[hk2] at this
    have he:k*sz+sz+(j-sz)=k*sz+j:=by omega
    rw[← he];exact this
end
end Go.Abs
