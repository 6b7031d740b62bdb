/- Own text. -/
import Derived.Test.YtefabmohhbhlfaaAbsCall4
import Derived.Orders
set_option linter.unusedVariables false
set_option linter.unusedSimpArgs false
namespace Go.Abs
open Go
section
variable {P:Program} {nt:Nat} {F A:Nat→Prop} {Γ0:Gh}
def VM (n:Nat):Nat→Prop:=fun id=>id<n
theorem Zd1 (n:Nat):Qw (VM n) n:=fun id h _ hu=>by simp only[VM] at hu;omega
theorem Zd2 {n:Nat}:∀ id,VI (VM n) n id→VM (n+64) id:=fun id h=>by
 simp only[VI,VM] at h ⊢;omega
theorem Zm9 {n m:Nat} (h:n≤m):∀ id,VM n id→VM m id:=fun id hu=>by simp only[VM] at hu ⊢;omega
def J7 (Γ0 Γ:Gh) (_:Hp):Prop:=ZU Γ0 Γ
def ZgI (Γ0:Gh) (m:Nat):Prop:=(∀ k,m≤k→Γ0 k=none)∧∀ k,k<m→∃ r,Γ0 k=some r
def VO (nt:Nat) (F A:Nat→Prop) (Γ0:Gh) (I:Nat→Prop) (w:World) (st' : St) (a' : Act) (w' : World):Prop:=
 ∃ I' Γ',J7 Γ0 Γ' st'.hp∧ZB I I' w w'∧(∀ b,I' b→I b∨F b)∧Fr F w w'∧Sim nt F A I' Γ' (VM st'.nx) st'.sl st'.hp a' w'
theorem VO.refl {I:Nat→Prop} {Γ:Gh} {st:St} {a:Act} {w:World} (h:Sim nt F A I Γ (VM st.nx) st.sl st.hp a w) (hc:J7 Γ0 Γ st.hp):VO nt F A Γ0 I w st a w:=
 ⟨I,Γ,hc,ZB.refl I w,fun _ h=>.inl h,Fr.refl F w,h⟩
theorem VO.step {I I1:Nat→Prop} {w w1 w' : World} {aa : St} {a' : Act} (hk:ZB I I1 w w1) (hs:∀ b,I1 b→I b∨F b) (hf:Fr F w w1) (h:VO nt F A Γ0 I1 w1 aa a' w'):VO nt F A Γ0 I w aa a' w':=by
 obtain⟨I',Γ',h1,h2,h3,h4,h5⟩:=h;refine⟨I',Γ',h1,hk.trans h2,fun b hb=>?_,hf.trans h4,h5⟩;rcases h3 b hb with h6 | h6
 ·exact hs b h6
 ·exact .inr h6
theorem XQ.cpre {Γ Γ' : Gh} {hp hp' : Hp} (hg:ZU Γ Γ') (hc:J7 Γ0 Γ hp):J7 Γ0 Γ' hp':=fun k r hk=>hg k r (hc k r hk)
theorem Zlc {I:Nat→Prop} {Γ:Gh} {U:Nat→Prop} {sl:Sl} {hp:Hp} {a:Act} {w:World} (h:Sim nt F A I Γ U sl hp a w) {ops:Array Oper} {o:Oper} {g:Option (Nat×Bool)} (hg:Zgi ops.toList o.guard=some g)
  {b:Bool} (hw:ZK sl g=some b):Region.wanted o (yielded ops a.tmps)=b:=by
 unfold Region.wanted;cases ho:o.guard with
 | none=>
  rw[ho] at hg;simp only[Zgi] at hg;cases hg;simp only[ZK] at hw;cases hw;rfl
 | some q=>
  rw[ho] at hg;simp only[Zgi] at hg;obtain⟨g',h1,hg⟩:=Za hg;obtain⟨t,h2,hg⟩:=Za hg;cases hg;simp only[ZK] at hw;have hr:=h.slots t;have ad : ops[q.1]?=some g':=by simpa using h1
  have hy:yielded ops a.tmps q.1=match a.tmps[t]? with
   | some (.bool b)=>some b
   | _=>none:=by unfold yielded;rw[ad];simp only[Option.bind_some,h2];rfl
  unfold JX at hw;split at hw
  ·rename_i b' aa;cases hw;rw[aa] at hr;have h3:=Jo hr;have h4:a.tmps[t]?=some (.bool b'):=by
    cases ht:a.tmps[t]? with
    | none=>simp[ht,undef] at h3
    | some v=>simp[ht] at h3;rw[h3]
   obtain⟨qj,qw⟩:=q;simp only at hy ⊢;rw[hy,h4];cases b' <;> cases qw<;>rfl
  ·rename_i aa;cases hw;rw[aa] at hr;obtain⟨us,h3,h4⟩:=hr;have h5:∀ b',a.tmps[t]?≠some (.bool b'):=by
    intro b' ab;simp[ab] at h3
   obtain⟨qj,qw⟩:=q;simp only at hy ⊢;rw[hy];cases ht:a.tmps[t]? with
   | none=>rfl
   | some v=>
    cases v<;>first | rfl | (exfalso;exact h5 _ ht)
  ·cases hw
theorem Zd3 {Γ:Gh} {w:World} {I:Nat→Prop}:Rep Γ w I (.tup []) undef:=⟨#[],rfl,trivial⟩
theorem J8 {ops:List Oper} {o:Oper} {co:CO} (h:ZeJ P nt ops o=some co):Zgi ops o.guard=some co.guard∧Yf (cOp P o.type o.op)=co.op∧Qh nt o.dst=true∧co.dst=o.dst:=by
 unfold ZeJ at h;obtain⟨g,h1,h⟩:=Za h;split at h
 ·cases h;exact⟨h1,rfl,by assumption,rfl⟩
 ·cases h
theorem QG {base:Nat} {dst:Option Nat} {sl:Sl} {hp:Hp} {e:Option Zb} {r:Sl×Hp} (h:Xf base dst sl hp e=some r):∃ ce,e=some ce∧Qn base (base+64) ce.eff.adds=true∧r=ce.on dst sl hp:=by
 unfold Xf at h;obtain⟨ce,h1,h⟩:=Za h;split at h
 ·cases h;exact⟨ce,h1,by assumption,rfl⟩
 ·cases h
theorem Zpi {ops:Array Oper} {i:Nat} {o:Oper} {aa:List Oper} (h:ops.toList.drop i=o :: aa):ops[i]?=some o∧ops.toList.drop (i+1)=aa∧i<ops.size:=by
 have h1:(ops.toList.drop i)[0]?=some o:=by rw[h];rfl
 rw[KX] at h1;have h2:ops[i]?=some o:=by simpa using h1
 refine⟨h2,?_,(KB.1 h2).1⟩;rw[← List.drop_drop,h];rfl
def Ju (l:List Nat) (a a' : Act):Prop:=∀ t,t∉l→a'.tmps.getD t undef=a.tmps.getD t undef
theorem Ju.step {l:List Nat} {a a' : Act} {d:Option Nat} {u:Value} (h:Ju l (a.put d u) a'):Ju (ZgB d l) a a':=fun t ht=>by
 cases d with
 | none=>exact h t ht
 | some k=>
  simp only[ZgB,Ke,not_or] at ht;rw[h t ht.2];simp[Act.put,Array.getD_eq_getD_getElem?,Array.getElem?_setIfInBounds,Ne.symm ht.1]
theorem XQ.trans {I I1:Nat→Prop} {Γ Γ1:Gh} {w w1 w' : World} {U' : Nat→Prop} {sl' : Sl} {hp' : Hp} {a' : Act} (hg:ZU Γ Γ1) (hk:ZB I I1 w w1) (hs:∀ b,I1 b→I b∨F b) (hf:Fr F w w1) (h:XQ nt F A I1 Γ1 w1 U' sl' hp' a' w'):XQ nt F A I Γ w U' sl' hp' a' w':=by
 obtain⟨I',Γ',h1,h2,h3,h4,h5⟩:=h;refine⟨I',Γ',fun k r hr=>h1 k r (hg k r hr),hk.trans h2,fun b hb=>?_,hf.trans h4,h5⟩;rcases h3 b hb with h6 | h6
 ·exact hs b h6
 ·exact .inr h6
theorem ZgJ {C:Orc} {M:Zg} (hC:Qc P C) {ops:Array Oper} {Q:Exit→Act→World→Prop} {nx:Nat} :
  ∀ (os:List CO) (i:Nat) {sl:Sl} {hp:Hp} {r:Sl×Hp} {I:Nat→Prop} {Γ:Gh} {a:Act} {w:World},i≤ops.size→Z7 (ZeJ P nt ops.toList) (ops.toList.drop i)=some (ZdZ os)→J1 C M nx i os sl hp=some r →
   Sim nt F A I Γ (VM (nx+64*i)) sl hp a w→(∀ a' w',XQ nt F A I Γ w (VM (nx+64*ops.size)) r.1 r.2 a' w'→Ju (VL os) a a'→Q .normal a' w') →
   wpOps P ops Q (List.range' i (ops.size-i)) a w:=by
 intro os
 induction os with
 | nil=>
  intro i sl hp r I Γ a w ah aa hv hS hQ;have hd:ops.toList.drop i=[]:=by
   cases hd:ops.toList.drop i with
   | nil=>rfl
   | cons o rest=>
    rw[hd] at aa;simp only[Z7] at aa;obtain⟨_,_,aa⟩:=Za aa;obtain⟨_,_,aa⟩:=Za aa;simp[ZdZ] at aa
  have hi:ops.size≤i:=by
   have:=List.drop_eq_nil_iff.1 hd;simpa using this
  have ak:i=ops.size:=by omega
  subst ak;rw[show ops.size-ops.size=0 by omega];simp only[J1] at hv;cases hv;simp only[List.range',wpOps];exact hQ a w ⟨I,Γ,fun _ _ h=>h,ZB.refl I w,fun _ h=>.inl h,Fr.refl F w,hS⟩ fun _ _=>rfl
 | cons co os ih=>
  intro i sl hp r I Γ a w ah aa hv hS hQ;cases hd:ops.toList.drop i with
  | nil=>rw[hd] at aa;simp[Z7,ZdZ] at aa
  | cons o rest=>
   obtain⟨ho,ad,an⟩:=Zpi hd;rw[hd] at aa;simp only[Z7] at aa;obtain⟨ao,h1,aa⟩:=Za aa;obtain⟨ap,h2,aa⟩:=Za aa;simp only[ZdZ,Option.some.injEq,List.cons.injEq] at aa;obtain⟨rfl,rfl⟩:=aa;obtain⟨hg,aj,ae,ag⟩:=J8 h1;dsimp only at hg aj ag;rw[show ops.size-i=(ops.size-(i+1))+1 by omega,List.range'_succ];simp only[J1] at hv;obtain⟨b,hw,hv⟩:=Za hv;have af:=Zlc hS hg hw;simp only[wpOps,ho,af];rw[ag] at hv;cases b with
   | true=>
    simp only[Kl] at hv ⊢;obtain⟨q,hq,hv⟩:=Za hv;obtain⟨ce,al,am,rfl⟩:=QG hq;refine .inl (Zp8 hC hS aj (Zd1 _) ae am al _ _ fun u w' hp'=>?_);obtain⟨I1,Γ1,b1,b2,b3,b4,b5⟩:=hp';refine ih (i+1) (by omega) (by rw[ad];exact h2) hv (by rw[show nx+64*(i+1)=nx+64*i+64 by omega];exact b5.more Zd2) fun a' ai ab hs=>hQ a' ai (ab.trans b1 b2 b3 b4) (by simp only[VL];rw[ag];exact hs.step)
   | false=>
    simp only[Ka,Kj] at hv ⊢;obtain⟨I1,Γ1,b1,b2,b3,b4,b5⟩:=hS.pure (U':=VM (nx+64*(i+1))) (v:=.tup []) (u:=undef) (dst:=o.dst) (Zm9 (by omega)) Zd3 ae;exact ih (i+1) (by omega) (by rw[ad];exact h2) hv b5 fun a' ai ab hs=>hQ a' ai (ab.trans b1 b2 b3 b4) (by simp only[VL];rw[ag];exact hs.step)
theorem Zda {hp:Hp} {ids:List Nat}:∀ {l:List Nat} {i:Nat},i∈l→i∉ZaM hp ids l→U4 hp ids i=true
 | [],i,h,_=>by simp at h
 | x :: r,i,h,hn=>by
  simp only[ZaM] at hn;cases hl:U4 hp ids x with
  | true=>
   rw[hl] at hn;simp only[Kl] at hn;rcases Ke.1 h with rfl | h
   ·exact hl
   ·exact Zda h hn
  | false=>
   rw[hl] at hn;simp only[Ka,Kj,Ke,not_or] at hn;rcases Ke.1 h with rfl | h
   ·exact absurd rfl hn.1
   ·exact Zda h hn.2
def Ur (_:Hp) (ids:List Nat) (Γ:Gh):Gh:=fun k=>match ids[k]? with
 | some id=>Γ id
 | none=>none
theorem ZiS {hp:Hp} {ids:List Nat} {Γ:Gh} {id:Nat} (h:U4 hp ids id=true):Ur hp ids Γ (Yd ids id)=Γ id:=by
 simp only[U4,Kb,KF,Kq] at h;simp only[Ur,(Zcy h.1).2]
section
variable {I:Nat→Prop} {Γ:Gh} {U:Nat→Prop} {sl:Sl} {hp:Hp} {a:Act} {w:World}
theorem ZgK (ids:List Nat) {x:AV} {v:Value} (h:Rep Γ w I x v):Rep (Ur hp ids Γ) w I (Jt hp ids x) v:=by
 refine Zfe (fun id aa r hr=>?_) (ZB.refl I w) (Zkj (bad:=ZaM hp ids (Zm x)) h);obtain⟨h1,h2⟩:=Zij _ _ id aa;rw[ZiS (Zda h1 h2)];exact hr
theorem Zpj {ids:List Nat} {k id:Nat} (hk:ids[k]?=some id) {o:Zh} (hl:lkp hp id=some o) (ho:Xo Γ w I F A id o):Xo (Ur hp ids Γ) w I F A k (ZaN hp ids o):=by
 have hG:Ur hp ids Γ k=Γ id:=by simp[Ur,hk]
 cases o with
 | box cs=>
  obtain⟨b,cur,e,h1,h2,h3,h4,h5,ab⟩:=ho;refine⟨b,cur,e,by rw[hG,h1],h2,h3,h4,?_,(ab.map (Ve _)).map (W4 _)⟩;have h6:Zp (QP Γ w I) (cs.map (ZD (ZaM hp ids (Vu (.box cs))))) cur.toList:=h5.map_left fun _ _ h=>ZdB h;refine Jh (fun ae aa r hr=>?_) (ZB.refl I w) h6;obtain⟨y,hy,aa⟩:=Kr.1 aa;obtain⟨x,hx,rfl⟩:=Lc.1 hy;obtain⟨h7,h8⟩:=Zb0 _ x ae aa;rw[ZiS (Zda (Kr.2 ⟨x,hx,h7⟩) h8)];exact hr
 | row sz xs ex fz=>
  obtain⟨ad,n,c,h1,h2⟩:=ho;exact⟨ad,n,c,by rw[hG,h1],h2⟩
 | gone=>
  obtain⟨r,h1⟩:=ho;exact⟨r,by rw[hG,h1]⟩
 | tree sz ns xs lk=>
  obtain⟨ad,n,c,h1,h2,h3⟩:=ho;refine⟨ad,n,c,by rw[hG,h1],?_,Xa.lose (Xa.kill (Γ':=Γ) h3 (fun _ _ _ h=>h) fun _ _=>rfl)⟩;rw[Vn,Vo];exact h2
theorem Zmn (h:Sim nt F A I Γ U sl hp a w) {ids:List Nat} (af:ids.Nodup) (ae:∀ id∈ids,∃ r,Γ id=some r) :
  V9 (Ur hp ids Γ) w I F A (Yu 0 ((UX hp ids).map (ZaN hp ids))) ∧
  (∀ i j o o' b,lkp (Yu 0 ((UX hp ids).map (ZaN hp ids))) i=some o→lkp (Yu 0 ((UX hp ids).map (ZaN hp ids))) j=some o'→Blk (Ur hp ids Γ) w i o b→Blk (Ur hp ids Γ) w j o' b→i=j) ∧
  (∀ id,ids.length≤id→Ur hp ids Γ id=none):=by
 have get:∀ k o,lkp (Yu 0 ((UX hp ids).map (ZaN hp ids))) k=some o→∃ id,ids[k]?=some id∧o=ZaN hp ids (ZkU (lkp hp id)):=by
  intro k o hk;rw[Vx] at hk;simp only[Nat.zero_le,Kl,Kaa,KJ,Zfx,Option.map_map] at hk;cases hi:ids[k]? with
  | none=>rw[hi] at hk;cases hk
  | some id=>
   rw[hi] at hk;simp only[KK,Option.some.injEq,Function.comp_apply] at hk;exact⟨id,rfl,hk.symm⟩
 refine⟨fun k o hk=>?_,fun i j o o' b hi hj aa ab=>?_,fun id ag=>?_⟩
 ·obtain⟨id,h1,rfl⟩:=get k o hk;cases hl:lkp hp id with
  | none=>
   obtain⟨r,hr⟩:=ae id (Kg h1);exact⟨r,by simp[Ur,h1,hr]⟩
  | some o0=>exact Zpj h1 hl (h.objs id o0 hl)
 ·obtain⟨id,h1,rfl⟩:=get i o hi;obtain⟨ad,h2,rfl⟩:=get j o' hj;have bk:∀ (k id:Nat) (o0:Zh),Ur hp ids Γ k=Γ id→Blk (Ur hp ids Γ) w k (ZaN hp ids o0) b→Blk Γ w id o0 b:=by
   intro k id o0 e hb;rcases hb with hb | hb | hb
   ·unfold ZaN at hb;rw[ZdS,Zcg,e] at hb;exact .inl hb
   ·cases o0 with
    | box cs=>exact False.elim hb
    | row sz xs ex fz=>exact False.elim hb
    | gone=>exact False.elim hb
    | tree sz ns xs lk=>
     obtain⟨g,p,h5,h6⟩:=hb;rw[Vn,Vo] at h6;exact .inr (.inl ⟨g,p,e ▸ h5,h6⟩)
   ·cases o0 with
    | box cs=>exact .inr (.inr ((Buf.unmap (Ve _) (Buf.unmap (W4 _) hb)).ren e.symm))
    | row sz xs ex fz=>exact False.elim hb
    | gone=>exact False.elim hb
    | tree sz ns xs lk=>exact False.elim hb
  cases hl:lkp hp id with
  | none=>rw[hl] at aa;exact aa.isGone.elim
  | some o0=>
   cases hl' : lkp hp ad with
   | none=>rw[hl'] at ab;exact ab.isGone.elim
   | some o1=>
    have e1:Ur hp ids Γ i=Γ id:=by simp[Ur,h1]
    have e2:Ur hp ids Γ j=Γ ad:=by simp[Ur,h2]
    rw[hl] at aa;rw[hl'] at ab;have:=h.inj id ad o0 o1 b hl hl' (bk i id o0 e1 aa) (bk j ad o1 e2 ab);subst this;exact Zik af h1 h2
 ·simp[Ur,KH ag]
theorem WZ (hp:Hp):∀ (n:Nat) (todo aa:List Nat),∃ t,Qu hp n todo aa=aa++t
 | 0,todo,aa=>⟨[],by simp[Qu]⟩
 | n+1,[],aa=>⟨[],by simp[Qu]⟩
 | n+1,id :: todo,aa=>by
  simp only[Qu];split
  ·exact WZ hp n todo aa
  ·cases lkp hp id with
   | none=>simp only[VF];exact WZ hp n todo aa
   | some o=>
    simp only[VF];obtain⟨t,ht⟩:=WZ hp n (todo++Vu o) (aa++[id]);exact⟨id :: t,by rw[ht];simp⟩
theorem Zld {hp:Hp} {n m:Nat} {todo:List Nat} {k:Nat} (hk:k<m):(Qu hp n todo (List.range m))[k]?=some k:=by
 obtain⟨t,ht⟩:=WZ hp n todo (List.range m);rw[ht,Kn (by simpa using hk)];simp[hk]
theorem ZiT {n m:Nat} {todo:List Nat} {hp' : Hp} (hc:J7 Γ0 Γ hp) (hm:ZgI Γ0 m) :
  J7 Γ0 (Ur hp (Qu hp n todo (List.range m)) Γ) hp':=by
 intro k r hk;have aa:k<m:=by
  rcases KO k m with h | h
  ·exact h
  ·rw[hm.1 k h] at hk;cases hk
 simp only[Ur,Zld (hp:=hp) (n:=n) (todo:=todo) aa];exact hc k r hk
theorem ZaR (h:Sim nt F A I Γ U sl hp a w) {n m:Nat} {todo:List Nat} (hc:J7 Γ0 Γ hp) (hm:ZgI Γ0 m):∀ id∈Qu hp n todo (List.range m),∃ r,Γ id=some r:=by
 intro id aa;rcases (Vw hp n todo (List.range m) L3).2.2 id aa with h1 | ⟨o,ho⟩
 ·obtain⟨r,hr⟩:=hm.2 id (by simpa using h1);exact⟨r,hc id r hr⟩
 ·have:=h.objs id o ho;cases o with
  | box cs=>obtain⟨b,cur,e,h1,_⟩:=this;exact⟨_,h1⟩
  | row sz xs ex fz=>obtain⟨ad,n,c,h1,_⟩:=this;exact⟨_,h1⟩
  | tree sz ns xs lk=>obtain⟨ad,n,c,h1,_⟩:=this;exact⟨_,h1⟩
  | gone=>exact this
theorem Zdb {α:Type} (K:List Nat):∀ (l:List (Nat×α)) (t:Nat),lkp (only K l) t=if K.contains t then lkp l t else none
 | [],t=>by simp[only,lkp]
 | (k,v) :: r,t=>by
  simp only[only];by_cases hk:K.contains k=true
  ·rw[Kt hk];simp only[lkp,Zdb K r];by_cases aa:k=t
   ·subst aa;simp only[Kl,hk]
   ·simp only[Kp aa]
  ·rw[Kp hk,Zdb K r];simp only[lkp];by_cases aa:k=t
   ·subst aa;simp only[Kl];rw[Kp hk,Kp hk]
   ·simp only[Kp aa]
end
theorem Zoc {I:Nat→Prop} {Γ:Gh} {st:St} {a:Act} {w:World} (h:Sim nt F A I Γ (VM st.nx) st.sl st.hp a w) (hc:J7 Γ0 Γ st.hp) (hm:ZgI Γ0 st.m) (K:List Nat) :
  ∃ Γ',Sim nt F A I Γ' (VM (Vl K st).nx) (Vl K st).sl (Vl K st).hp a w∧J7 Γ0 Γ' (Vl K st).hp:=by
 have aa:=(Vw st.hp (QT st.hp) (ZiR (only K st.sl)++YI st.hp (List.range st.m)) (List.range st.m) L3).1;obtain⟨h1,h2,h3⟩:=Zmn h aa (ZaR h hc hm);refine⟨Ur st.hp (Qu st.hp (QT st.hp) (ZiR (only K st.sl)++YI st.hp (List.range st.m)) (List.range st.m)) Γ,
  { nt:=h.nt,dfr:=h.dfr,slots:=fun t=>?_,objs:=h1,inj:=h2,bound:=h.bound,fresh:=h.fresh,own:=h.own,names:=fun id ab=>h3 id (Nat.le_of_not_lt ab),glob:=h.glob },ZiT hc hm⟩
 show Rep _ w I (gs (Zdy _ (only K st.sl)) t) _;simp only[gs,ZaT,Zdb];have hs:=h.slots t;simp only[gs] at hs;by_cases hK:K.contains t=true
 ·rw[Kt hK];cases hl:lkp st.sl t with
  | none=>exact trivial
  | some v=>rw[hl] at hs;exact ZgK _ hs
 ·rw[Kp hK];exact trivial
end
end Go.Abs
