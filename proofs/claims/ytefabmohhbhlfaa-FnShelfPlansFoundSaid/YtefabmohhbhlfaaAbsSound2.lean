/- Own text. -/
import Derived.Test.YtefabmohhbhlfaaAbsCall4
import Derived.Orders
set_option linter.unusedVariables false
set_option linter.unusedSimpArgs false
namespace Go.Abs
open Go
section
variable {P:Program} {nt:Nat} {F A:Nat→Prop} {Γ0:Gh}
def Wf (n:Nat):Nat→Prop:=fun id=>id<n
theorem ZeJ (n:Nat):Qx (Wf n) n:=fun id h _ hu=>by simp only[Wf] at hu;omega
theorem ZeK {n:Nat}:∀ id,Wb (Wf n) n id→Wf (n+64) id:=fun id h=>by
 simp only[Wb,Wf] at h ⊢;omega
theorem ZoI {n m:Nat} (h:n≤m):∀ id,Wf n id→Wf m id:=fun id hu=>by simp only[Wf] at hu ⊢;omega
def ZaH (Γ0 Γ:Gh) (_:Hp):Prop:=ZY Γ0 Γ
def Zhy (Γ0:Gh) (m:Nat):Prop:=(∀ k,m≤k→Γ0 k=none)∧∀ k,k<m→∃ r,Γ0 k=some r
def Wg (nt:Nat) (F A:Nat→Prop) (Γ0:Gh) (I:Nat→Prop) (w:World) (st' : St) (a' : Act) (w' : World):Prop:=
 ∃ I' Γ',ZaH Γ0 Γ' st'.hp∧ZB I I' w w'∧(∀ b,I' b→I b∨F b)∧Fr F w w'∧Sim nt F A I' Γ' (Wf st'.nx) st'.sl st'.hp a' w'
theorem Wg.refl {I:Nat→Prop} {Γ:Gh} {st:St} {a:Act} {w:World} (h:Sim nt F A I Γ (Wf st.nx) st.sl st.hp a w) (hc:ZaH Γ0 Γ st.hp):Wg nt F A Γ0 I w st a w:=
 ⟨I,Γ,hc,ZB.refl I w,fun _ h=>.inl h,Fr.refl F w,h⟩
theorem Wg.step {I I1:Nat→Prop} {w w1 w' : World} {aa : St} {a' : Act} (hk:ZB I I1 w w1) (hs:∀ b,I1 b→I b∨F b) (hf:Fr F w w1) (h:Wg nt F A Γ0 I1 w1 aa a' w'):Wg nt F A Γ0 I w aa a' w':=by
 obtain⟨I',Γ',h1,h2,h3,h4,h5⟩:=h;refine⟨I',Γ',h1,hk.trans h2,fun b hb=>?_,hf.trans h4,h5⟩;rcases h3 b hb with h6 | h6
 ·exact hs b h6
 ·exact .inr h6
theorem X9.cpre {Γ Γ' : Gh} {hp hp' : Hp} (hg:ZY Γ Γ') (hc:ZaH Γ0 Γ hp):ZaH Γ0 Γ' hp':=fun k r hk=>hg k r (hc k r hk)
theorem Zml {I:Nat→Prop} {Γ:Gh} {U:Nat→Prop} {sl:Sl} {hp:Hp} {a:Act} {w:World} (h:Sim nt F A I Γ U sl hp a w) {ops:Array Oper} {o:Oper} {g:Option (Nat×Bool)} (hg:Zg8 ops.toList o.guard=some g)
  {b:Bool} (hw:ZL sl g=some b):Region.wanted o (yielded ops a.tmps)=b:=by
 unfold Region.wanted;cases ho:o.guard with
 | none=>
  rw[ho] at hg;simp only[Zg8] at hg;cases hg;simp only[ZL] at hw;cases hw;rfl
 | some q=>
  rw[ho] at hg;simp only[Zg8] at hg;obtain⟨g',h1,hg⟩:=Za hg;obtain⟨t,h2,hg⟩:=Za hg;cases hg;simp only[ZL] at hw;have hr:=h.slots t;have ad : ops[q.1]?=some g':=by simpa using h1
  have hy:yielded ops a.tmps q.1=match a.tmps[t]? with
   | some (.bool b)=>some b
   | _=>none:=by unfold yielded;rw[ad];simp only[Option.bind_some,h2];rfl
  unfold Zax at hw;split at hw
  ·rename_i b' aa;cases hw;rw[aa] at hr;have h3:=JY hr;have h4:a.tmps[t]?=some (.bool b'):=by
    cases ht:a.tmps[t]? with
    | none=>simp[ht,undef] at h3
    | some v=>simp[ht] at h3;rw[h3]
   obtain⟨qj,qw⟩:=q;simp only at hy ⊢;rw[hy,h4];cases b' <;> cases qw<;>rfl
  ·rename_i aa;cases hw;rw[aa] at hr;obtain⟨us,h3,h4⟩:=hr;have h5:∀ b',a.tmps[t]?≠some (.bool b'):=by
    intro b' ab;simp[ab] at h3
   obtain⟨qj,qw⟩:=q;simp only at hy ⊢;rw[hy];cases ht:a.tmps[t]? with
   | none=>rfl
   | some v=>
    cases v<;>first | rfl | (exfalso;exact h5 _ ht)
  ·cases hw
theorem ZeL {Γ:Gh} {w:World} {I:Nat→Prop}:Rep Γ w I (.tup []) undef:=⟨#[],rfl,trivial⟩
theorem ZaI {ops:List Oper} {o:Oper} {co:CO} (h:Zfq P nt ops o=some co):Zg8 ops o.guard=some co.guard∧Yw (cOp P o.type o.op)=co.op∧Qm nt o.dst=true∧co.dst=o.dst:=by
 unfold Zfq at h;obtain⟨g,h1,h⟩:=Za h;split at h
 ·cases h;exact⟨h1,rfl,by assumption,rfl⟩
 ·cases h
theorem QI {base:Nat} {dst:Option Nat} {sl:Sl} {hp:Hp} {e:Option Zb} {r:Sl×Hp} (h:Xu base dst sl hp e=some r):∃ ce,e=some ce∧Qr base (base+64) ce.eff.adds=true∧r=ce.on dst sl hp:=by
 unfold Xu at h;obtain⟨ce,h1,h⟩:=Za h;split at h
 ·cases h;exact⟨ce,h1,by assumption,rfl⟩
 ·cases h
theorem ZqV {ops:Array Oper} {i:Nat} {o:Oper} {aa:List Oper} (h:ops.toList.drop i=o :: aa):ops[i]?=some o∧ops.toList.drop (i+1)=aa∧i<ops.size:=by
 have h1:(ops.toList.drop i)[0]?=some o:=by rw[h];rfl
 rw[KY] at h1;have h2:ops[i]?=some o:=by simpa using h1
 refine⟨h2,?_,(KF.1 h2).1⟩;rw[← Ly,h];rfl
def J3 (l:List Nat) (a a' : Act):Prop:=∀ t,t∉l→a'.tmps.getD t undef=a.tmps.getD t undef
theorem J3.step {l:List Nat} {a a' : Act} {d:Option Nat} {u:Value} (h:J3 l (a.put d u) a'):J3 (Zhr d l) a a':=fun t ht=>by
 cases d with
 | none=>exact h t ht
 | some k=>
  simp only[Zhr,Kf,not_or] at ht;rw[h t ht.2];simp[Act.put,Array.getD_eq_getD_getElem?,Array.getElem?_setIfInBounds,Ne.symm ht.1]
theorem X9.trans {I I1:Nat→Prop} {Γ Γ1:Gh} {w w1 w' : World} {U' : Nat→Prop} {sl' : Sl} {hp' : Hp} {a' : Act} (hg:ZY Γ Γ1) (hk:ZB I I1 w w1) (hs:∀ b,I1 b→I b∨F b) (hf:Fr F w w1) (h:X9 nt F A I1 Γ1 w1 U' sl' hp' a' w'):X9 nt F A I Γ w U' sl' hp' a' w':=by
 obtain⟨I',Γ',h1,h2,h3,h4,h5⟩:=h;refine⟨I',Γ',fun k r hr=>h1 k r (hg k r hr),hk.trans h2,fun b hb=>?_,hf.trans h4,h5⟩;rcases h3 b hb with h6 | h6
 ·exact hs b h6
 ·exact .inr h6
theorem Zhz {C:Orc} {M:Zg} (hC:Qh P C) {ops:Array Oper} {Q:Exit→Act→World→Prop} {nx:Nat} :
  ∀ (os:List CO) (i:Nat) {sl:Sl} {hp:Hp} {r:Sl×Hp} {I:Nat→Prop} {Γ:Gh} {a:Act} {w:World},i≤ops.size→Qb (Zfq P nt ops.toList) (ops.toList.drop i)=some (ZeH os)→ZaB C M nx i os sl hp=some r →
   Sim nt F A I Γ (Wf (nx+64*i)) sl hp a w→(∀ a' w',X9 nt F A I Γ w (Wf (nx+64*ops.size)) r.1 r.2 a' w'→J3 (We os) a a'→Q .normal a' w') →
   wpOps P ops Q (List.range' i (ops.size-i)) a w:=by
 intro os
 induction os with
 | nil=>
  intro i sl hp r I Γ a w ah aa hv hS hQ;have hd:ops.toList.drop i=[]:=by
   cases hd:ops.toList.drop i with
   | nil=>rfl
   | cons o rest=>
    rw[hd] at aa;simp only[Qb] at aa;obtain⟨_,_,aa⟩:=Za aa;obtain⟨_,_,aa⟩:=Za aa;simp[ZeH] at aa
  have hi:ops.size≤i:=by
   have:=List.drop_eq_nil_iff.1 hd;simpa using this
  have ak:i=ops.size:=by omega
  subst ak;rw[show ops.size-ops.size=0 by omega];simp only[ZaB] at hv;cases hv;simp only[List.range',wpOps];exact hQ a w ⟨I,Γ,fun _ _ h=>h,ZB.refl I w,fun _ h=>.inl h,Fr.refl F w,hS⟩ fun _ _=>rfl
 | cons co os ih=>
  intro i sl hp r I Γ a w ah aa hv hS hQ;cases hd:ops.toList.drop i with
  | nil=>rw[hd] at aa;simp[Qb,ZeH] at aa
  | cons o rest=>
   obtain⟨ho,ad,an⟩:=ZqV hd;rw[hd] at aa;simp only[Qb] at aa;obtain⟨ao,h1,aa⟩:=Za aa;obtain⟨ap,h2,aa⟩:=Za aa;simp only[ZeH,Option.some.injEq,List.cons.injEq] at aa;obtain⟨rfl,rfl⟩:=aa;obtain⟨hg,aj,ae,ag⟩:=ZaI h1;dsimp only at hg aj ag;rw[show ops.size-i=(ops.size-(i+1))+1 by omega,List.range'_succ];simp only[ZaB] at hv;obtain⟨b,hw,hv⟩:=Za hv;have af:=Zml hS hg hw;simp only[wpOps,ho,af];rw[ag] at hv;cases b with
   | true=>
    simp only[Kk] at hv ⊢;obtain⟨q,hq,hv⟩:=Za hv;obtain⟨ce,al,am,rfl⟩:=QI hq;refine .inl (ZrG hC hS aj (ZeJ _) ae am al _ _ fun u w' hp'=>?_);obtain⟨I1,Γ1,b1,b2,b3,b4,b5⟩:=hp';refine ih (i+1) (by omega) (by rw[ad];exact h2) hv (by rw[show nx+64*(i+1)=nx+64*i+64 by omega];exact b5.more ZeK) fun a' ai ab hs=>hQ a' ai (ab.trans b1 b2 b3 b4) (by simp only[We];rw[ag];exact hs.step)
   | false=>
    simp only[Ka,Ki] at hv ⊢;obtain⟨I1,Γ1,b1,b2,b3,b4,b5⟩:=hS.pure (U':=Wf (nx+64*(i+1))) (v:=.tup []) (u:=undef) (dst:=o.dst) (ZoI (by omega)) ZeL ae;exact ih (i+1) (by omega) (by rw[ad];exact h2) hv b5 fun a' ai ab hs=>hQ a' ai (ab.trans b1 b2 b3 b4) (by simp only[We];rw[ag];exact hs.step)
theorem ZdH {hp:Hp} {ids:List Nat}:∀ {l:List Nat} {i:Nat},i∈l→i∉Zbp hp ids l→JH hp ids i=true
 | [],i,h,_=>by simp at h
 | x :: r,i,h,hn=>by
  simp only[Zbp] at hn;cases hl:JH hp ids x with
  | true=>
   rw[hl] at hn;simp only[Kk] at hn;rcases Kf.1 h with rfl | h
   ·exact hl
   ·exact ZdH h hn
  | false=>
   rw[hl] at hn;simp only[Ka,Ki,Kf,not_or] at hn;rcases Kf.1 h with rfl | h
   ·exact absurd rfl hn.1
   ·exact ZdH h hn.2
def U0 (_:Hp) (ids:List Nat) (Γ:Gh):Gh:=fun k=>match ids[k]? with
 | some id=>Γ id
 | none=>none
theorem ZjP {hp:Hp} {ids:List Nat} {Γ:Gh} {id:Nat} (h:JH hp ids id=true):U0 hp ids Γ (Yu ids id)=Γ id:=by
 simp only[JH,Kb,KM,Kl] at h;simp only[U0,(Zc5 h.1).2]
section
variable {I:Nat→Prop} {Γ:Gh} {U:Nat→Prop} {sl:Sl} {hp:Hp} {a:Act} {w:World}
theorem ZhA (ids:List Nat) {x:AV} {v:Value} (h:Rep Γ w I x v):Rep (U0 hp ids Γ) w I (J2 hp ids x) v:=by
 refine Zf4 (fun id aa r hr=>?_) (ZB.refl I w) (Zlr (bad:=Zbp hp ids (Zo x)) h);obtain⟨h1,h2⟩:=Zjg _ _ id aa;rw[ZjP (ZdH h1 h2)];exact hr
theorem ZqW {ids:List Nat} {k id:Nat} (hk:ids[k]?=some id) {o:Zh} (hl:lkp hp id=some o) (ho:XF Γ w I F A id o):XF (U0 hp ids Γ) w I F A k (Zbq hp ids o):=by
 have hG:U0 hp ids Γ k=Γ id:=by simp[U0,hk]
 cases o with
 | box cs=>
  obtain⟨b,cur,e,h1,h2,h3,h4,h5,ab⟩:=ho;refine⟨b,cur,e,by rw[hG,h1],h2,h3,h4,?_,(ab.map (VC _)).map (UB _)⟩;have h6:Zq (QT Γ w I) (cs.map (ZF (Zbp hp ids (VV (.box cs))))) cur.toList:=h5.map_left fun _ _ h=>Zeh h;refine JS (fun ae aa r hr=>?_) (ZB.refl I w) h6;obtain⟨y,hy,aa⟩:=Ks.1 aa;obtain⟨x,hx,rfl⟩:=KV.1 hy;obtain⟨h7,h8⟩:=ZcB _ x ae aa;rw[ZjP (ZdH (Ks.2 ⟨x,hx,h7⟩) h8)];exact hr
 | row sz xs ex fz=>
  obtain⟨ad,n,c,h1,h2⟩:=ho;exact⟨ad,n,c,by rw[hG,h1],h2⟩
 | gone=>
  obtain⟨r,h1⟩:=ho;exact⟨r,by rw[hG,h1]⟩
 | tree sz ns xs lk=>
  obtain⟨ad,n,c,h1,h2,h3⟩:=ho;refine⟨ad,n,c,by rw[hG,h1],?_,Xl.lose (Xl.kill (Γ':=Γ) h3 (fun _ _ _ h=>h) fun _ _=>rfl)⟩;rw[VM,VN];exact h2
theorem ZnK (h:Sim nt F A I Γ U sl hp a w) {ids:List Nat} (af:ids.Nodup) (ae:∀ id∈ids,∃ r,Γ id=some r) :
  Wz (U0 hp ids Γ) w I F A (YL 0 ((JB hp ids).map (Zbq hp ids))) ∧
  (∀ i j o o' b,lkp (YL 0 ((JB hp ids).map (Zbq hp ids))) i=some o→lkp (YL 0 ((JB hp ids).map (Zbq hp ids))) j=some o'→Blk (U0 hp ids Γ) w i o b→Blk (U0 hp ids Γ) w j o' b→i=j) ∧
  (∀ id,ids.length≤id→U0 hp ids Γ id=none):=by
 have get:∀ k o,lkp (YL 0 ((JB hp ids).map (Zbq hp ids))) k=some o→∃ id,ids[k]?=some id∧o=Zbq hp ids (Zl2 (lkp hp id)):=by
  intro k o hk;rw[VZ] at hk;simp only[Nat.zero_le,Kk,LV,Kx,Zgm,Option.map_map] at hk;cases hi:ids[k]? with
  | none=>rw[hi] at hk;cases hk
  | some id=>
   rw[hi] at hk;simp only[KW,Option.some.injEq,Function.comp_apply] at hk;exact⟨id,rfl,hk.symm⟩
 refine⟨fun k o hk=>?_,fun i j o o' b hi hj aa ab=>?_,fun id ag=>?_⟩
 ·obtain⟨id,h1,rfl⟩:=get k o hk;cases hl:lkp hp id with
  | none=>
   obtain⟨r,hr⟩:=ae id (Ke h1);exact⟨r,by simp[U0,h1,hr]⟩
  | some o0=>exact ZqW h1 hl (h.objs id o0 hl)
 ·obtain⟨id,h1,rfl⟩:=get i o hi;obtain⟨ad,h2,rfl⟩:=get j o' hj;have bk:∀ (k id:Nat) (o0:Zh),U0 hp ids Γ k=Γ id→Blk (U0 hp ids Γ) w k (Zbq hp ids o0) b→Blk Γ w id o0 b:=by
   intro k id o0 e hb;rcases hb with hb | hb | hb
   ·unfold Zbq at hb;rw[ZeA,ZcR,e] at hb;exact .inl hb
   ·cases o0 with
    | box cs=>exact False.elim hb
    | row sz xs ex fz=>exact False.elim hb
    | gone=>exact False.elim hb
    | tree sz ns xs lk=>
     obtain⟨g,p,h5,h6⟩:=hb;rw[VM,VN] at h6;exact .inr (.inl ⟨g,p,e ▸ h5,h6⟩)
   ·cases o0 with
    | box cs=>exact .inr (.inr ((Buf.unmap (VC _) (Buf.unmap (UB _) hb)).ren e.symm))
    | row sz xs ex fz=>exact False.elim hb
    | gone=>exact False.elim hb
    | tree sz ns xs lk=>exact False.elim hb
  cases hl:lkp hp id with
  | none=>rw[hl] at aa;exact aa.isGone.elim
  | some o0=>
   cases hl' : lkp hp ad with
   | none=>rw[hl'] at ab;exact ab.isGone.elim
   | some o1=>
    have e1:U0 hp ids Γ i=Γ id:=by simp[U0,h1]
    have e2:U0 hp ids Γ j=Γ ad:=by simp[U0,h2]
    rw[hl] at aa;rw[hl'] at ab;have:=h.inj id ad o0 o1 b hl hl' (bk i id o0 e1 aa) (bk j ad o1 e2 ab);subst this;exact Zjh af h1 h2
 ·simp[U0,KR ag]
theorem Uu (hp:Hp):∀ (n:Nat) (todo aa:List Nat),∃ t,Qv hp n todo aa=aa++t
 | 0,todo,aa=>⟨[],by simp[Qv]⟩
 | n+1,[],aa=>⟨[],by simp[Qv]⟩
 | n+1,id :: todo,aa=>by
  simp only[Qv];split
  ·exact Uu hp n todo aa
  ·cases lkp hp id with
   | none=>simp only[V7];exact Uu hp n todo aa
   | some o=>
    simp only[V7];obtain⟨t,ht⟩:=Uu hp n (todo++VV o) (aa++[id]);exact⟨id :: t,by rw[ht];simp⟩
theorem Zmm {hp:Hp} {n m:Nat} {todo:List Nat} {k:Nat} (hk:k<m):(Qv hp n todo (List.range m))[k]?=some k:=by
 obtain⟨t,ht⟩:=Uu hp n todo (List.range m);rw[ht,Kr (by simpa using hk)];simp[hk]
theorem ZjQ {n m:Nat} {todo:List Nat} {hp' : Hp} (hc:ZaH Γ0 Γ hp) (hm:Zhy Γ0 m) :
  ZaH Γ0 (U0 hp (Qv hp n todo (List.range m)) Γ) hp':=by
 intro k r hk;have aa:k<m:=by
  rcases KZ k m with h | h
  ·exact h
  ·rw[hm.1 k h] at hk;cases hk
 simp only[U0,Zmm (hp:=hp) (n:=n) (todo:=todo) aa];exact hc k r hk
theorem Zbu (h:Sim nt F A I Γ U sl hp a w) {n m:Nat} {todo:List Nat} (hc:ZaH Γ0 Γ hp) (hm:Zhy Γ0 m):∀ id∈Qv hp n todo (List.range m),∃ r,Γ id=some r:=by
 intro id aa;rcases (VY hp n todo (List.range m) L5).2.2 id aa with h1 | ⟨o,ho⟩
 ·obtain⟨r,hr⟩:=hm.2 id (by simpa using h1);exact⟨r,hc id r hr⟩
 ·have:=h.objs id o ho;cases o with
  | box cs=>obtain⟨b,cur,e,h1,_⟩:=this;exact⟨_,h1⟩
  | row sz xs ex fz=>obtain⟨ad,n,c,h1,_⟩:=this;exact⟨_,h1⟩
  | tree sz ns xs lk=>obtain⟨ad,n,c,h1,_⟩:=this;exact⟨_,h1⟩
  | gone=>exact this
theorem ZdI {α:Type} (K:List Nat):∀ (l:List (Nat×α)) (t:Nat),lkp (only K l) t=if K.contains t then lkp l t else none
 | [],t=>by simp[only,lkp]
 | (k,v) :: r,t=>by
  simp only[only];by_cases hk:K.contains k=true
  ·rw[Ko hk];simp only[lkp,ZdI K r];by_cases aa:k=t
   ·subst aa;simp only[Kk,hk]
   ·simp only[Kn aa]
  ·rw[Kn hk,ZdI K r];simp only[lkp];by_cases aa:k=t
   ·subst aa;simp only[Kk];rw[Kn hk,Kn hk]
   ·simp only[Kn aa]
end
theorem ZpQ {I:Nat→Prop} {Γ:Gh} {st:St} {a:Act} {w:World} (h:Sim nt F A I Γ (Wf st.nx) st.sl st.hp a w) (hc:ZaH Γ0 Γ st.hp) (hm:Zhy Γ0 st.m) (K:List Nat) :
  ∃ Γ',Sim nt F A I Γ' (Wf (VK K st).nx) (VK K st).sl (VK K st).hp a w∧ZaH Γ0 Γ' (VK K st).hp:=by
 have aa:=(VY st.hp (QX st.hp) (ZjO (only K st.sl)++Y4 st.hp (List.range st.m)) (List.range st.m) L5).1;obtain⟨h1,h2,h3⟩:=ZnK h aa (Zbu h hc hm);refine⟨U0 st.hp (Qv st.hp (QX st.hp) (ZjO (only K st.sl)++Y4 st.hp (List.range st.m)) (List.range st.m)) Γ,
  { nt:=h.nt,dfr:=h.dfr,slots:=fun t=>?_,objs:=h1,inj:=h2,bound:=h.bound,fresh:=h.fresh,own:=h.own,names:=fun id ab=>h3 id (Nat.le_of_not_lt ab),glob:=h.glob },ZjQ hc hm⟩
 show Rep _ w I (gs (Zee _ (only K st.sl)) t) _;simp only[gs,Zbw,ZdI];have hs:=h.slots t;simp only[gs] at hs;by_cases hK:K.contains t=true
 ·rw[Ko hK];cases hl:lkp st.sl t with
  | none=>exact trivial
  | some v=>rw[hl] at hs;exact ZhA _ hs
 ·rw[Kn hK];exact trivial
end
end Go.Abs
