/- Own text. -/
import Derived.Test.YtbpekaejmjlmfaaGreatAbsCall4
import Derived.Orders
set_option linter.unusedVariables false
set_option linter.unusedSimpArgs false
namespace Go.Abs
open Go
section
variable {P:Program} {nt:Nat} {F A:Nat→Prop} {Γ0:Gh}
def Za9 (n:Nat):Nat→Prop:=fun id=>id<n
theorem Zms (n:Nat):Xk (Za9 n) n:=fun id h _ hu=>by simp only[Za9] at hu;omega
theorem Zmt {n:Nat}:∀ id,ZaS (Za9 n) n id→Za9 (n+64) id:=fun id h=>by
 simp only[ZaS,Za9] at h ⊢;omega
theorem ZDf {n m:Nat} (h:n≤m):∀ id,Za9 n id→Za9 m id:=fun id hu=>by simp only[Za9] at hu ⊢;omega
def Zfv (Γ0 Γ:Gh) (_:Hp):Prop:=Qo Γ0 Γ
def Zrd (Γ0:Gh) (m:Nat):Prop:=(∀ k,m≤k→Γ0 k=none)∧∀ k,k<m→∃ r,Γ0 k=some r
def Zbf (nt:Nat) (F A:Nat→Prop) (Γ0:Gh) (I:Nat→Prop) (w:World) (st' : St) (a' : Act) (w' : World):Prop:=
 ∃ I' Γ',Zfv Γ0 Γ' st'.hp∧ZY I I' w w'∧(∀ b,I' b→I b∨F b)∧Fr F w w'∧Sim nt F A I' Γ' (Za9 st'.nx) st'.sl st'.hp a' w'
theorem Zbf.refl {I:Nat→Prop} {Γ:Gh} {st:St} {a:Act} {w:World} (h:Sim nt F A I Γ (Za9 st.nx) st.sl st.hp a w) (hc:Zfv Γ0 Γ st.hp):Zbf nt F A Γ0 I w st a w:=
 ⟨I,Γ,hc,ZY.refl I w,fun _ h=>.inl h,Fr.refl F w,h⟩
theorem Zbf.step {I I1:Nat→Prop} {w w1 w' : World} {aa : St} {a' : Act} (hk:ZY I I1 w w1) (hs:∀ b,I1 b→I b∨F b) (hf:Fr F w w1) (h:Zbf nt F A Γ0 I1 w1 aa a' w'):Zbf nt F A Γ0 I w aa a' w':=by
 obtain⟨I',Γ',h1,h2,h3,h4,h5⟩:=h;refine⟨I',Γ',h1,hk.trans h2,fun b hb=>?_,hf.trans h4,h5⟩;rcases h3 b hb with h6 | h6
 ·exact hs b h6
 ·exact .inr h6
theorem US.cpre {Γ Γ' : Gh} {hp hp' : Hp} (hg:Qo Γ Γ') (hc:Zfv Γ0 Γ hp):Zfv Γ0 Γ' hp':=fun k r hk=>hg k r (hc k r hk)
theorem Zw3 {I:Nat→Prop} {Γ:Gh} {U:Nat→Prop} {sl:Sl} {hp:Hp} {a:Act} {w:World} (h:Sim nt F A I Γ U sl hp a w) {ops:Array Oper} {o:Oper} {g:Option (Nat×Bool)} (hg:ZqQ ops.toList o.guard=some g)
  {b:Bool} (hw:Z6 sl g=some b):Region.wanted o (yielded ops a.tmps)=b:=by
 unfold Region.wanted;cases ho:o.guard with
 | none=>
  rw[ho] at hg;simp only[ZqQ] at hg;cases hg;simp only[Z6] at hw;cases hw;rfl
 | some q=>
  rw[ho] at hg;simp only[ZqQ] at hg;obtain⟨g',h1,hg⟩:=Za hg;obtain⟨t,h2,hg⟩:=Za hg;cases hg;simp only[Z6] at hw;have hr:=h.slots t;have ad : ops[q.1]?=some g':=by simpa using h1
  have hy:yielded ops a.tmps q.1=match a.tmps[t]? with
   | some (.bool b)=>some b
   | _=>none:=by unfold yielded;rw[ad];simp only[Option.bind_some,h2];rfl
  unfold Zgx at hw;split at hw
  ·rename_i b' aa;cases hw;rw[aa] at hr;have h3:=Zfp hr;have h4:a.tmps[t]?=some (.bool b'):=by
    cases ht:a.tmps[t]? with
    | none=>simp[ht,undef] at h3
    | some v=>simp[ht] at h3;rw[h3]
   obtain⟨qj,qw⟩:=q;simp only at hy ⊢;rw[hy,h4];cases b' <;> cases qw<;>rfl
  ·rename_i aa;cases hw;rw[aa] at hr;obtain⟨us,h3,h4⟩:=hr;have h5:∀ b',a.tmps[t]?≠some (.bool b'):=by
    intro b' ab;simp[ab] at h3
   obtain⟨qj,qw⟩:=q;simp only at hy ⊢;rw[hy];cases ht:a.tmps[t]? with
   | none=>rfl
   | some v=>
    cases v<;>first | rfl | (exfalso;exact h5 _ ht)
  ·cases hw
theorem Zmu {Γ:Gh} {w:World} {I:Nat→Prop}:Rep Γ w I (.tup []) undef:=⟨#[],rfl,trivial⟩
theorem Zj2 {ops:List Oper} {o:Oper} {co:CO} (h:Zm8 P nt ops o=some co):ZqQ ops o.guard=some co.guard∧WM (cOp P o.type o.op)=co.op∧QX nt o.dst=true∧co.dst=o.dst:=by
 unfold Zm8 at h;obtain⟨g,h1,h⟩:=Za h;split at h
 ·cases h;exact⟨h1,rfl,by assumption,rfl⟩
 ·cases h
theorem XB {base:Nat} {dst:Option Nat} {sl:Sl} {hp:Hp} {e:Option Zf} {r:Sl×Hp} (h:YZ base dst sl hp e=some r):∃ ce,e=some ce∧Q5 base (base+64) ce.eff.adds=true∧r=ce.on dst sl hp:=by
 unfold YZ at h;obtain⟨ce,h1,h⟩:=Za h;split at h
 ·cases h;exact⟨ce,h1,by assumption,rfl⟩
 ·cases h
theorem ZBW {ops:Array Oper} {i:Nat} {o:Oper} {aa:List Oper} (h:ops.toList.drop i=o :: aa):ops[i]?=some o∧ops.toList.drop (i+1)=aa∧i<ops.size:=by
 have h1:(ops.toList.drop i)[0]?=some o:=by rw[h];rfl
 rw[Lm] at h1;have h2:ops[i]?=some o:=by simpa using h1
 refine⟨h2,?_,(KP.1 h2).1⟩;rw[← List.drop_drop,h];rfl
theorem ZyG {C:Orc} {M:Zp} (hC:QP P C) {ops:Array Oper} {Q:Exit→Act→World→Prop} {nx m:Nat} :
  ∀ (os:List CO) (i:Nat) {sl:Sl} {hp:Hp} {r:Sl×Hp} {I:Nat→Prop} {Γ:Gh} {a:Act} {w:World},i≤ops.size→QH (Zm8 P nt ops.toList) (ops.toList.drop i)=some (Zmq os)→ZhX C M nx i os sl hp=some r →
   Sim nt F A I Γ (Za9 (nx+64*i)) sl hp a w→Zfv Γ0 Γ hp→(∀ a' w',Zbf nt F A Γ0 I w { sl:=r.1,hp:=r.2,nx:=nx+64*ops.size,m:=m } a' w'→Q .normal a' w') →
   wpOps P ops Q (List.range' i (ops.size-i)) a w:=by
 intro os
 induction os with
 | nil=>
  intro i sl hp r I Γ a w ag aa hv hS hc hQ;have hd:ops.toList.drop i=[]:=by
   cases hd:ops.toList.drop i with
   | nil=>rfl
   | cons o rest=>
    rw[hd] at aa;simp only[QH] at aa;obtain⟨_,_,aa⟩:=Za aa;obtain⟨_,_,aa⟩:=Za aa;simp[Zmq] at aa
  have hi:ops.size≤i:=by
   have:=List.drop_eq_nil_iff.1 hd;simpa using this
  have ak:i=ops.size:=by omega
  subst ak;rw[show ops.size-ops.size=0 by omega];simp only[ZhX] at hv;cases hv;simp only[List.range',wpOps];exact hQ a w (Zbf.refl (st := { sl:=sl,hp:=hp,nx:=nx+64*ops.size,m:=m }) hS hc)
 | cons co os ih=>
  intro i sl hp r I Γ a w ag aa hv hS hc hQ;cases hd:ops.toList.drop i with
  | nil=>rw[hd] at aa;simp[QH,Zmq] at aa
  | cons o rest=>
   obtain⟨ho,ad,an⟩:=ZBW hd;rw[hd] at aa;simp only[QH] at aa;obtain⟨ao,h1,aa⟩:=Za aa;obtain⟨ap,h2,aa⟩:=Za aa;simp only[Zmq,Option.some.injEq,List.cons.injEq] at aa;obtain⟨rfl,rfl⟩:=aa;obtain⟨hg,ai,ae,aj⟩:=Zj2 h1;dsimp only at hg ai aj;rw[show ops.size-i=(ops.size-(i+1))+1 by omega,List.range'_succ];simp only[ZhX] at hv;obtain⟨b,hw,hv⟩:=Za hv;have af:=Zw3 hS hg hw;simp only[wpOps,ho,af];rw[aj] at hv;cases b with
   | true=>
    simp only[Kk] at hv ⊢;obtain⟨q,hq,hv⟩:=Za hv;obtain⟨ce,al,am,rfl⟩:=XB hq;refine .inl (ZCQ hC hS ai (Zms _) ae am al _ _ fun u w' hp'=>?_);obtain⟨I1,Γ1,b1,b2,b3,b4,b5⟩:=hp';refine ih (i+1) (by omega) (by rw[ad];exact h2) hv (by rw[show nx+64*(i+1)=nx+64*i+64 by omega];exact b5.more Zmt) (US.cpre b1 hc) fun a' ah ab=>hQ a' ah (ab.step b2 b3 b4)
   | false=>
    simp only[Ka,Kj] at hv ⊢;obtain⟨I1,Γ1,b1,b2,b3,b4,b5⟩:=hS.pure (U':=Za9 (nx+64*(i+1))) (v:=.tup []) (u:=undef) (dst:=o.dst) (ZDf (by omega)) Zmu ae;exact ih (i+1) (by omega) (by rw[ad];exact h2) hv b5 (US.cpre b1 hc) fun a' ah ab=>hQ a' ah (ab.step b2 b3 b4)
theorem Zlc {hp:Hp} {ids:List Nat}:∀ {l:List Nat} {i:Nat},i∈l→i∉ZhY hp ids l→Ze2 hp ids i=true
 | [],i,h,_=>by simp at h
 | x :: r,i,h,hn=>by
  simp only[ZhY] at hn;cases hl:Ze2 hp ids x with
  | true=>
   rw[hl] at hn;simp only[Kk] at hn;rcases Kg.1 h with rfl | h
   ·exact hl
   ·exact Zlc h hn
  | false=>
   rw[hl] at hn;simp only[Ka,Kj,Kg,not_or] at hn;rcases Kg.1 h with rfl | h
   ·exact absurd rfl hn.1
   ·exact Zlc h hn.2
def ZdU (_:Hp) (ids:List Nat) (Γ:Gh):Gh:=fun k=>match ids[k]? with
 | some id=>Γ id
 | none=>none
theorem ZtF {hp:Hp} {ids:List Nat} {Γ:Gh} {id:Nat} (h:Ze2 hp ids id=true):ZdU hp ids Γ (WK ids id)=Γ id:=by
 simp only[Ze2,Kd,K0,Kr] at h;simp only[ZdU,(ZkF h.1).2]
section
variable {I:Nat→Prop} {Γ:Gh} {U:Nat→Prop} {sl:Sl} {hp:Hp} {a:Act} {w:World}
theorem Zre (ids:List Nat) {x:AV} {v:Value} (h:Rep Γ w I x v):Rep (ZdU hp ids Γ) w I (Zfu hp ids x) v:=by
 refine Zoq (fun id aa r hr=>?_) (ZY.refl I w) (Zwc (bad:=ZhY hp ids (Zy x)) h);obtain⟨h1,h2⟩:=Zs9 _ _ id aa;rw[ZtF (Zlc h1 h2)];exact hr
theorem ZBX {ids:List Nat} {k id:Nat} (hk:ids[k]?=some id) {o:Zn} (hl:lkp hp id=some o) (ho:Vi Γ w I F A id o):Vi (ZdU hp ids Γ) w I F A k (ZhZ hp ids o):=by
 have hG:ZdU hp ids Γ k=Γ id:=by simp[ZdU,hk]
 cases o with
 | box cs=>
  obtain⟨b,cur,e,h1,h2,h3,h4,h5,ab⟩:=ho;refine⟨b,cur,e,by rw[hG,h1],h2,h3,h4,?_,(ab.map (JQ _)).map (ZcR _)⟩;have h6:ZD (X3 Γ w I) (cs.map (ZW (ZhY hp ids (ZaL (.box cs))))) cur.toList:=h5.map_left fun _ _ h=>Zl0 h;refine Zfi (fun ae aa r hr=>?_) (ZY.refl I w) h6;obtain⟨y,hy,aa⟩:=Kx.1 aa;obtain⟨x,hx,rfl⟩:=KX.1 hy;obtain⟨h7,h8⟩:=ZjI _ x ae aa;rw[ZtF (Zlc (Kx.2 ⟨x,hx,h7⟩) h8)];exact hr
 | row sz xs ex fz=>
  obtain⟨ad,n,c,h1,h2⟩:=ho;exact⟨ad,n,c,by rw[hG,h1],h2⟩
 | gone=>
  obtain⟨r,h1⟩:=ho;exact⟨r,by rw[hG,h1]⟩
 | tree sz ns xs lk=>
  obtain⟨ad,n,c,h1,h2,h3⟩:=ho;refine⟨ad,n,c,by rw[hG,h1],?_,YF.lose (YF.kill (Γ':=Γ) h3 (fun _ _ _ h=>h) fun _ _=>rfl)⟩;rw[J5,J6];exact h2
theorem ZyH (h:Sim nt F A I Γ U sl hp a w) {ids:List Nat} (af:ids.Nodup) (ae:∀ id∈ids,∃ r,Γ id=some r) :
  Zbr (ZdU hp ids Γ) w I F A (Um 0 ((ZeV hp ids).map (ZhZ hp ids))) ∧
  (∀ i j o o' b,lkp (Um 0 ((ZeV hp ids).map (ZhZ hp ids))) i=some o→lkp (Um 0 ((ZeV hp ids).map (ZhZ hp ids))) j=some o'→Blk (ZdU hp ids Γ) w i o b→Blk (ZdU hp ids Γ) w j o' b→i=j) ∧
  (∀ id,ids.length≤id→ZdU hp ids Γ id=none):=by
 have get:∀ k o,lkp (Um 0 ((ZeV hp ids).map (ZhZ hp ids))) k=some o→∃ id,ids[k]?=some id∧o=ZhZ hp ids (ZwP (lkp hp id)):=by
  intro k o hk;rw[ZaO] at hk;simp only[Kai,Kk,Nat.sub_zero,Lc,Zp6,Option.map_map] at hk;cases hi:ids[k]? with
  | none=>rw[hi] at hk;cases hk
  | some id=>
   rw[hi] at hk;simp only[Ld,Option.some.injEq,Function.comp_apply] at hk;exact⟨id,rfl,hk.symm⟩
 refine⟨fun k o hk=>?_,fun i j o o' b hi hj aa ab=>?_,fun id ag=>?_⟩
 ·obtain⟨id,h1,rfl⟩:=get k o hk;cases hl:lkp hp id with
  | none=>
   obtain⟨r,hr⟩:=ae id (Kb h1);exact⟨r,by simp[ZdU,h1,hr]⟩
  | some o0=>exact ZBX h1 hl (h.objs id o0 hl)
 ·obtain⟨id,h1,rfl⟩:=get i o hi;obtain⟨ad,h2,rfl⟩:=get j o' hj;have bk:∀ (k id:Nat) (o0:Zn),ZdU hp ids Γ k=Γ id→Blk (ZdU hp ids Γ) w k (ZhZ hp ids o0) b→Blk Γ w id o0 b:=by
   intro k id o0 e hb;rcases hb with hb | hb | hb
   ·unfold ZhZ at hb;rw[Zma,ZjR,e] at hb;exact .inl hb
   ·cases o0 with
    | box cs=>exact False.elim hb
    | row sz xs ex fz=>exact False.elim hb
    | gone=>exact False.elim hb
    | tree sz ns xs lk=>
     obtain⟨g,p,h5,h6⟩:=hb;rw[J5,J6] at h6;exact .inr (.inl ⟨g,p,e ▸ h5,h6⟩)
   ·cases o0 with
    | box cs=>exact .inr (.inr ((Buf.unmap (JQ _) (Buf.unmap (ZcR _) hb)).ren e.symm))
    | row sz xs ex fz=>exact False.elim hb
    | gone=>exact False.elim hb
    | tree sz ns xs lk=>exact False.elim hb
  cases hl:lkp hp id with
  | none=>rw[hl] at aa;exact aa.isGone.elim
  | some o0=>
   cases hl' : lkp hp ad with
   | none=>rw[hl'] at ab;exact ab.isGone.elim
   | some o1=>
    have e1:ZdU hp ids Γ i=Γ id:=by simp[ZdU,h1]
    have e2:ZdU hp ids Γ j=Γ ad:=by simp[ZdU,h2]
    rw[hl] at aa;rw[hl'] at ab;have:=h.inj id ad o0 o1 b hl hl' (bk i id o0 e1 aa) (bk j ad o1 e2 ab);subst this;exact Ztb af h1 h2
 ·simp[ZdU,KU ag]
theorem ZcD (hp:Hp):∀ (n:Nat) (todo aa:List Nat),∃ t,Xb hp n todo aa=aa++t
 | 0,todo,aa=>⟨[],by simp[Xb]⟩
 | n+1,[],aa=>⟨[],by simp[Xb]⟩
 | n+1,id :: todo,aa=>by
  simp only[Xb];split
  ·exact ZcD hp n todo aa
  ·cases lkp hp id with
   | none=>simp only[ZaZ];exact ZcD hp n todo aa
   | some o=>
    simp only[ZaZ];obtain⟨t,ht⟩:=ZcD hp n (todo++ZaL o) (aa++[id]);exact⟨id :: t,by rw[ht];simp⟩
theorem Zw4 {hp:Hp} {n m:Nat} {todo:List Nat} {k:Nat} (hk:k<m):(Xb hp n todo (List.range m))[k]?=some k:=by
 obtain⟨t,ht⟩:=ZcD hp n todo (List.range m);rw[ht,KC (by simpa using hk)];simp[hk]
theorem ZtG {n m:Nat} {todo:List Nat} {hp' : Hp} (hc:Zfv Γ0 Γ hp) (hm:Zrd Γ0 m) :
  Zfv Γ0 (ZdU hp (Xb hp n todo (List.range m)) Γ) hp':=by
 intro k r hk;have aa:k<m:=by
  rcases K9 k m with h | h
  ·exact h
  ·rw[hm.1 k h] at hk;cases hk
 simp only[ZdU,Zw4 (hp:=hp) (n:=n) (todo:=todo) aa];exact hc k r hk
theorem Zh3 (h:Sim nt F A I Γ U sl hp a w) {n m:Nat} {todo:List Nat} (hc:Zfv Γ0 Γ hp) (hm:Zrd Γ0 m):∀ id∈Xb hp n todo (List.range m),∃ r,Γ id=some r:=by
 intro id aa;rcases (ZaN hp n todo (List.range m) Kao).2.2 id aa with h1 | ⟨o,ho⟩
 ·obtain⟨r,hr⟩:=hm.2 id (by simpa using h1);exact⟨r,hc id r hr⟩
 ·have:=h.objs id o ho;cases o with
  | box cs=>obtain⟨b,cur,e,h1,_⟩:=this;exact⟨_,h1⟩
  | row sz xs ex fz=>obtain⟨ad,n,c,h1,_⟩:=this;exact⟨_,h1⟩
  | tree sz ns xs lk=>obtain⟨ad,n,c,h1,_⟩:=this;exact⟨_,h1⟩
  | gone=>exact this
theorem Zld {α:Type} (K:List Nat):∀ (l:List (Nat×α)) (t:Nat),lkp (only K l) t=if K.contains t then lkp l t else none
 | [],t=>by simp[only,lkp]
 | (k,v) :: r,t=>by
  simp only[only];by_cases hk:K.contains k=true
  ·rw[Kl hk];simp only[lkp,Zld K r];by_cases aa:k=t
   ·subst aa;simp only[Kk,hk]
   ·simp only[Ki aa]
  ·rw[Ki hk,Zld K r];simp only[lkp];by_cases aa:k=t
   ·subst aa;simp only[Kk];rw[Ki hk,Ki hk]
   ·simp only[Ki aa]
end
theorem ZAM {I:Nat→Prop} {Γ:Gh} {st:St} {a:Act} {w:World} (h:Sim nt F A I Γ (Za9 st.nx) st.sl st.hp a w) (hc:Zfv Γ0 Γ st.hp) (hm:Zrd Γ0 st.m) (K:List Nat) :
  ∃ Γ',Sim nt F A I Γ' (Za9 (J2 K st).nx) (J2 K st).sl (J2 K st).hp a w∧Zfv Γ0 Γ' (J2 K st).hp:=by
 have aa:=(ZaN st.hp (X9 st.hp) (ZtD (only K st.sl)++UQ st.hp (List.range st.m)) (List.range st.m) Kao).1;obtain⟨h1,h2,h3⟩:=ZyH h aa (Zh3 h hc hm);refine⟨ZdU st.hp (Xb st.hp (X9 st.hp) (ZtD (only K st.sl)++UQ st.hp (List.range st.m)) (List.range st.m)) Γ,
  { nt:=h.nt,dfr:=h.dfr,slots:=fun t=>?_,objs:=h1,inj:=h2,bound:=h.bound,fresh:=h.fresh,own:=h.own,names:=fun id ab=>h3 id (Nat.le_of_not_lt ab),glob:=h.glob },ZtG hc hm⟩
 show Rep _ w I (gs (ZlX _ (only K st.sl)) t) _;simp only[gs,Zh5,Zld];have hs:=h.slots t;simp only[gs] at hs;by_cases hK:K.contains t=true
 ·rw[Kl hK];cases hl:lkp st.sl t with
  | none=>exact trivial
  | some v=>rw[hl] at hs;exact Zre _ hs
 ·rw[Ki hK];exact trivial
end
end Go.Abs
