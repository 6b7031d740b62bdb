/- The abstract semantics: operations done in any order come to the same. Own text. -/
import Derived.Test.YtpobhkoombldlaaGreatAbsDraw2
set_option linter.unusedVariables false
set_option linter.unusedSimpArgs false
namespace Go.Abs
open Go
def YC (s s' : Sl×Hp):Prop:=(∀ t,gs s.1 t=gs s'.1 t)∧∀ id,lkp s.2 id=lkp s'.2 id
theorem YC.refl (s:Sl×Hp):YC s s:=⟨fun _=>rfl,fun _=>rfl⟩
theorem YC.symm {s s' : Sl×Hp} (h:YC s s'):YC s' s:=⟨fun t=>(h.1 t).symm,fun id=>(h.2 id).symm⟩
theorem YC.trans {a b c:Sl×Hp} (h:YC a b) (k:YC b c):YC a c:=⟨fun t=>(h.1 t).trans (k.1 t),fun id=>(h.2 id).trans (k.2 id)⟩
theorem Zdj:∀ (l:Hp) {hp hp' : Hp},(∀ id,lkp hp id=lkp hp' id)→∀ id,lkp (Zi hp l) id=lkp (Zi hp' l) id
 | [],_,_,h=>h
 | (k,o) :: r,hp,hp',h=>by
  simp only[Zi]
  exact Zdj r fun id=>by rw[Qo,Qo,h id]
theorem Zlk:∀ (l:List Nat) {hp hp' : Hp},(∀ id,lkp hp id=lkp hp' id)→∀ id,lkp (Qv hp l) id=lkp (Qv hp' l) id
 | [],_,_,h=>h
 | d :: r,hp,hp',h=>by
  simp only[Qv]
  exact Zlk r fun id=>by rw[Zjb,Zjb,h id]
theorem ZzU (ce:Zf) (dst:Option Nat) {s s' : Sl×Hp} (h:YC s s'):YC (ce.on dst s.1 s.2) (ce.on dst s'.1 s'.2):=by
 refine⟨fun t=>?_,fun id=>?_⟩
 ·show gs (Zw (XM ce.gone s.1) dst ce.eff.val) t=gs (Zw (XM ce.gone s'.1) dst ce.eff.val) t
  rw[QN,QN,Q5,Q5,h.1 t]
 ·exact Zdj _ (Zdj _ (Zlk _ fun id=>by rw[Qj,Qj,WE,WE,h.2 id])) id
noncomputable def ZX (C:Orc) (M:Zu) (nx i:Nat) (t:Bool) (o:CO) (s:Sl×Hp):Option (Sl×Hp):=
 bnd (Qc s.1 o.guard) fun b=>if b then Vz (nx+64*i) o.dst s.1 s.2 (UD C M nx i t o.op s.1 s.2) else some (Zw s.1 o.dst (.tup []),s.2)
noncomputable def ZP (C:Orc) (M:Zu) (os:List CO) (nx i:Nat) (s:Sl×Hp):Option (Sl×Hp):=bnd os[i]? fun o=>ZX C M nx i (Z2 os i) o s
noncomputable def Zf7 (C:Orc) (M:Zu) (os:List CO) (nx:Nat):List Nat→Sl×Hp→Option (Sl×Hp)
 | [],s=>some s
 | i :: l,s=>bnd (ZP C M os nx i s) (Zf7 C M os nx l)
theorem ZkA (C:Orc) (M:Zu) (os:List CO) (nx:Nat):∀ (rest:List CO) (i:Nat) (t:Bool) (sl:Sl) (hp:Hp),os.drop i=rest →
  JX C M nx i t rest sl hp=Zf7 C M os nx (List.range' i rest.length) (sl,hp)
 | [],i,t,sl,hp,_=>rfl
 | o :: rest,i,t,sl,hp,hd=>by
  have h1:os[i]?=some o:=by
   have:(os.drop i)[0]?=some o:=by rw[hd];rfl
   rw[List.getElem?_drop] at this;simpa using this
  have h2:os.drop (i+1)=rest:=by rw[← List.drop_drop,hd];rfl
  have h4:CO.starts o=Z2 os i:=by simp only[Z2,h1]
  simp only[JX,List.length_cons,List.range'_succ,Zf7,ZP,h1,Zj,ZX,h4]
  cases hw:Qc sl o.guard with
  | none=>rfl
  | some b=>
   cases b with
   | true=>
    simp only[Zj,if_true]
    cases hs:Vz (nx+64*i) o.dst sl hp (UD C M nx i (Z2 os i) o.op sl hp) with
    | none=>rfl
    | some r=>
     simp only[Zj]
     exact ZkA C M os nx rest (i+1) t r.1 r.2 h2
   | false=>
    simp only[Zj,Bool.false_eq_true,if_false]
    exact ZkA C M os nx rest (i+1) t _ _ h2
theorem ZwH {hp hp' : Hp} (h:∀ id,lkp hp id=lkp hp' id):X5 (fun _=>True) hp hp':=⟨fun id _=>h id,fun _ _ _ _ _ _=>trivial⟩
theorem ZyB (C:Orc) (M:Zu) {s s' : Sl×Hp} (h:YC s s') (base:Nat) (c:COp):vop C M s.1 s.2 base c=vop C M s'.1 s'.2 base c:=by
 have h1:∀ x:Opd,evO s.1 x=evO s'.1 x:=fun x=>by cases x<;>simp only[evO];exact h.1 _
 rw[X4 C M s.2 base (sl:=s.1) (sl':=s'.1) fun x _=>h1 x]
 exact ZbO (ZwH h.2) C M base fun x _=>⟨fun _ _=>trivial,fun _ _ _ _ _ _ _=>trivial⟩
theorem Zu5 {s s' : Sl×Hp} (h:YC s s') (g:Option (Nat×Bool)):Qc s.1 g=Qc s'.1 g:=by
 cases g with
 | none=>rfl
 | some q=>simp only[Qc,h.1]
theorem Zu6 {C:Orc} {M:Zu} {os:List CO} {nx i:Nat} {s s' r:Sl×Hp} (h:YC s s') (hr:ZP C M os nx i s=some r):∃ r',ZP C M os nx i s'=some r'∧YC r r':=by
 unfold ZP at hr ⊢
 obtain⟨o,h1,hr⟩:=Za hr
 rw[h1,Zj]
 unfold ZX at hr ⊢
 obtain⟨b,h2,hr⟩:=Za hr
 rw[← Zu5 h,h2,Zj]
 cases b with
 | true=>
  simp only[if_true] at hr ⊢
  obtain⟨ce,h3,h4,rfl⟩:=Xq hr
  have h5:UD C M nx i (Z2 os i) o.op s'.1 s'.2=some ce:=by
   rw[← h3];unfold UD;rw[ZyB C M h]
  refine⟨ce.on o.dst s'.1 s'.2,?_,ZzU ce o.dst h⟩
  unfold Vz
  rw[h5,Zj,if_pos h4]
 | false=>
  simp only[Bool.false_eq_true,if_false] at hr ⊢
  cases hr
  refine⟨_,rfl,fun t=>?_,h.2⟩
  show gs (Zw s.1 o.dst (.tup [])) t=gs (Zw s'.1 o.dst (.tup [])) t
  rw[QN,QN,h.1 t]
theorem Zpg {C:Orc} {M:Zu} {os:List CO} {nx:Nat}:∀ {l:List Nat} {s s' r:Sl×Hp},YC s s'→Zf7 C M os nx l s=some r→∃ r',Zf7 C M os nx l s'=some r'∧YC r r'
 | [],s,s',r,h,hr=>by simp only[Zf7] at hr ⊢;cases hr;exact⟨s',rfl,h⟩
 | i :: l,s,s',r,h,hr=>by
  simp only[Zf7] at hr ⊢
  obtain⟨s1,h1,hr⟩:=Za hr
  obtain⟨s1',h2,h3⟩:=Zu6 h h1
  rw[h2,Zj]
  exact Zpg h3 hr
theorem QO {sl:Sl} {d:Option Nat} {v:AV} {o:CO} (h:Q1 d (Wf o)=true):Qc (Zw sl d v) o.guard=Qc sl o.guard:=by
 cases hg:o.guard with
 | none=>rfl
 | some q=>
  simp only[Qc]
  rw[QN,if_neg]
  intro e
  rw[e] at h
  simp[Q1,Wf,hg,ZpW] at h
theorem UE {sl:Sl} {d:Option Nat} {v:AV} {o:CO} (h:Q1 d (Wf o)=true):∀ x∈ZT o.op,evO (Zw sl d v) x=evO sl x:=by
 intro x hx
 cases x with
 | t n=>
  simp only[evO]
  rw[QN,if_neg]
  intro e
  rw[e] at h
  simp only[Q1,Wf,Bool.not_eq_true',List.contains_eq_mem,decide_eq_false_iff_not] at h
  exact h (List.mem_append.2 (.inl (List.mem_flatMap.2 ⟨_,hx,by simp[ZcY]⟩)))
 | _=>rfl
theorem ZkB {C:Orc} {M:Zu} {nx i:Nat} {o:CO} {s s' : Sl×Hp} (h:ZX C M nx i false o s=some s') :
  ∃ v adds,s'=(Zw s.1 o.dst v,Zi s.2 adds)∧(∀ k x,(k,x)∈adds→nx+64*i≤k∧k<nx+64*i+64) ∧
   ∀ s'' : Sl×Hp,Qc s''.1 o.guard=Qc s.1 o.guard→vop C M s''.1 s''.2 (nx+64*i) o.op=vop C M s.1 s.2 (nx+64*i) o.op→ZX C M nx i false o s''=some (Zw s''.1 o.dst v,Zi s''.2 adds):=by
 unfold ZX at h
 obtain⟨b,hw,h⟩:=Za h
 cases b with
 | true=>
  simp only[if_true] at h
  obtain⟨ce,h1,h2,rfl⟩:=Xq h
  unfold UD at h1
  simp only[Bool.false_eq_true,if_false] at h1
  have h1':=h1
  unfold Zd8 at h1
  obtain⟨c,h3,h1⟩:=Za h1
  unfold Zgm at h1
  split at h1
  ·rename_i e1 e2 e3 e4
   cases h1
   have hon:∀ s:Sl×Hp,ce.on o.dst s.1 s.2=(Zw s.1 o.dst ce.eff.val,Zi s.2 ce.eff.adds):=by
    intro s
    unfold Zf.on Eff.on
    rw[e1,e2,e3,e4]
    rfl
   refine⟨ce.eff.val,ce.eff.adds,hon s,Jj h2,fun s'' g1 g2=>?_⟩
   unfold ZX
   rw[g1,hw,Zj]
   simp only[if_true]
   unfold Vz UD
   simp only[Bool.false_eq_true,if_false]
   rw[g2,h1',Zj,if_pos h2,hon]
  ·cases h1
 | false=>
  simp only[Bool.false_eq_true,if_false] at h
  cases h
  refine⟨.tup [],[],rfl,fun k x hk=>by simp at hk,fun s'' g1 g2=>?_⟩
  unfold ZX
  rw[g1,hw,Zj]
  rfl
theorem ZaS {U:Nat→Prop} {a:AV} (h:Wk (.v a)=true):Zlj U a:=by
 simp only[Wk,Bool.and_eq_true,List.isEmpty_iff,Bool.not_eq_true'] at h
 refine⟨fun id hid=>by rw[h.1] at hid;simp at hid,fun f caps hx=>?_⟩
 subst hx
 simp[Zsl] at h
section
variable {P:Program} {nt:Nat}
def Zju (nt:Nat) (s:Sl×Hp) (U:Nat→Prop):Prop:=∃ F A I Γ a w,Sim nt F A I Γ U s.1 s.2 a w
theorem UF {U:Nat→Prop} {base:Nat} (hf:X8 U base) {adds:Hp} (ha:∀ k x,(k,x)∈adds→base≤k∧k<base+64) (hp:Hp):∀ id,U id→lkp hp id=lkp (Zi hp adds) id:=by
 intro id hu
 rw[ZC]
 intro o ho
 obtain⟨h1,h2⟩:=ha id o ho
 exact hf id h1 h2 hu
theorem JR {sl:Sl} {d e:Option Nat} (h:ZbU d e=true) (u v:AV) (t:Nat):gs (Zw (Zw sl d u) e v) t=gs (Zw (Zw sl e v) d u) t:=by
 simp only[QN]
 by_cases h1:e=some t
 ·by_cases h2:d=some t
  ·rw[h1,h2] at h;simp[ZbU] at h
  ·simp[h1,h2]
 ·simp[h1]
theorem ZzV {adds adds' : Hp} {b b' : Nat} (ha:∀ k x,(k,x)∈adds→b≤k∧k<b+64) (ha' : ∀ k x,(k,x)∈adds'→b'≤k∧k<b'+64) (hd:b+64≤b'∨b'+64≤b) (hp:Hp) (id:Nat) :
  lkp (Zi (Zi hp adds) adds') id=lkp (Zi (Zi hp adds') adds) id:=by
 have key:∀ (l:Hp) (hp hp' : Hp),(∀ o,(id,o)∉l)→lkp (Zi hp l) id=lkp hp id:=fun l hp _ h=>ZC l hp id h
 by_cases h1:∃ o,(id,o)∈adds
 ·have h2:∀ o,(id,o)∉adds':=fun o ho=>by
   obtain⟨o',ho'⟩:=h1
   have:=ha id o' ho'
   have:=ha' id o ho
   omega
  rw[ZC adds' _ id h2]
  have key:∀ (l:Hp) (hp hp' : Hp),lkp hp id=lkp hp' id→lkp (Zi hp l) id=lkp (Zi hp' l) id:=by
   intro l
   induction l with
   | nil=>intro hp hp' h;exact h
   | cons q r ih=>
    intro hp hp' h
    obtain⟨k,x⟩:=q
    simp only[Zi]
    exact ih _ _ (by rw[Qo,Qo,h])
  exact key adds _ _ (ZC adds' hp id h2).symm
 ·have h2:∀ o,(id,o)∉adds:=fun o ho=>h1 ⟨o,ho⟩
  rw[ZC adds _ id h2]
  have key:∀ (l:Hp) (hp hp' : Hp),lkp hp id=lkp hp' id→lkp (Zi hp l) id=lkp (Zi hp' l) id:=by
   intro l
   induction l with
   | nil=>intro hp hp' h;exact h
   | cons q r ih=>
    intro hp hp' h
    obtain⟨k,x⟩:=q
    simp only[Zi]
    exact ih _ _ (by rw[Qo,Qo,h])
  exact key adds' _ _ (ZC adds hp id h2)
theorem Zph {C:Orc} {M:Zu} {os:List CO} {nx i j:Nat} {oi oj:CO} (hoi:os[i]?=some oi) (hoj:os[j]?=some oj) (hqj:Z2 os j=false) (hij:i≠j) (hap:Yl oj oi=true)
  (hops:∀ (k:Nat) (o:CO),os[k]?=some o→∀ x∈ZT o.op,Wk x=true) {s s1 s2:Sl×Hp} {U:Nat→Prop} (hs:Zju nt s U) (hfi:X8 U (nx+64*i)) (hfj:X8 U (nx+64*j))
  (h1:ZP C M os nx j s=some s1) (h2:ZX C M nx i false oi s1=some s2):∃ t1,ZX C M nx i false oi s=some t1∧∃ t2,ZP C M os nx j t1=some t2∧YC t2 s2:=by
 obtain⟨F,A,I,Γ,a,w,hsim⟩:=hs
 simp only[Yl,Bool.and_eq_true] at hap
 obtain⟨⟨ap1,ap2⟩,ap3⟩:=hap
 have good:∀ (k:Nat) (o:CO),os[k]?=some o→∀ x∈ZT o.op,Zlj U (evO s.1 x):=by
  intro k o ho x hx
  cases x with
  | t n=>exact hsim.good n
  | v y=>exact ZaS (hops k o ho _ hx)
  | f n=>exact⟨fun id hid=>by simp[evO,ZJ,ZK] at hid,fun f caps h c hc=>by cases h;simp at hc⟩
 simp only[ZP,hoj,Zj,hqj] at h1
 obtain⟨vj,aj,rfl,hj1,hj2⟩:=ZkB h1
 obtain⟨vi,ai,rfl,hi1,hi2⟩:=ZkB h2
 dsimp only at hi2
 have e1:ZX C M nx i false oi s=some (Zw s.1 oi.dst vi,Zi s.2 ai):=by
  refine hi2 s (QO ap1).symm ?_
  rw[X4 C M (Zi s.2 aj) (nx+64*i) (UE (o:=oi) ap1)]
  exact ZbO (hsim.agree (UF hfj hj1 s.2)) C M _ (good i oi hoi)
 refine⟨_,e1,?_⟩
 have e2:ZX C M nx j false oj (Zw s.1 oi.dst vi,Zi s.2 ai)=some (Zw (Zw s.1 oi.dst vi) oj.dst vj,Zi (Zi s.2 ai) aj):=by
  refine hj2 (Zw s.1 oi.dst vi,Zi s.2 ai) (QO ap3) ?_
  rw[X4 C M (Zi s.2 ai) (nx+64*j) (UE (o:=oj) ap3)]
  exact(ZbO (hsim.agree (UF hfi hi1 s.2)) C M _ (good j oj hoj)).symm
 refine⟨_,by simp only[ZP,hoj,Zj,hqj];exact e2,fun t=>?_,fun id=>?_⟩
 ·exact(JR ap2 vj vi t).symm
 ·refine ZzV hi1 hj1 ?_ s.2 id
  rcases Nat.lt_or_gt_of_ne hij with h | h
  ·left;omega
  ·right;omega
theorem ZyC {C:Orc} {M:Zu} {os:List CO} {nx i j:Nat} {oi oj:CO} (hoi:os[i]?=some oi) (hoj:os[j]?=some oj) (hqi:Z2 os i=false) (hqj:Z2 os j=false) (hij:i≠j) (hap:Yl oj oi=true)
  (hops:∀ (k:Nat) (o:CO),os[k]?=some o→∀ x∈ZT o.op,Wk x=true) {s s1 s2:Sl×Hp} {U:Nat→Prop} (hs:Zju nt s U) (hfi:X8 U (nx+64*i)) (hfj:X8 U (nx+64*j))
  (h1:ZP C M os nx j s=some s1) (h2:ZP C M os nx i s1=some s2):∃ t1,ZP C M os nx i s=some t1∧∃ t2,ZP C M os nx j t1=some t2∧YC t2 s2:=by
 have e:∀ s:Sl×Hp,ZP C M os nx i s=ZX C M nx i false oi s:=fun s=>by simp only[ZP,hoi,Zj,hqi]
 rw[e] at h2
 simp only[e]
 exact Zph hoi hoj hqj hij hap hops hs hfi hfj h1 h2
end
end Go.Abs
