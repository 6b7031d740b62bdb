/- Own text. -/
import Derived.Test.YtnachaiejoflhaaDoorAbsCall4
import Derived.Orders
set_option linter.unusedVariables false
set_option linter.unusedSimpArgs false
namespace Go.Abs
open Go
section
variable {P:Program} {nt:Nat} {F A:Nat→Prop} {Γ0:Gh}
def Ws (n:Nat):Nat→Prop:=fun id=>id<n
theorem Zfs (n:Nat):QO (Ws n) n:=fun id h _ hu=>by simp only[Ws] at hu;omega
theorem Zft {n:Nat}:∀ id,Wr (Ws n) n id→Ws (n+64) id:=fun id h=>by
 simp only[Wr,Ws] at h ⊢;omega
theorem ZsZ {n m:Nat} (h:n≤m):∀ id,Ws n id→Ws m id:=fun id hu=>by simp only[Ws] at hu ⊢;omega
def Zai (Γ0 Γ:Gh) (_:Hp):Prop:=ZX Γ0 Γ
def ZiF (Γ0:Gh) (m:Nat):Prop:=(∀ k,m≤k→Γ0 k=none)∧∀ k,k<m→∃ r,Γ0 k=some r
def Ww (nt:Nat) (F A:Nat→Prop) (Γ0:Gh) (I:Nat→Prop) (w:World) (st' : St) (a' : Act) (w' : World):Prop:=
 ∃ I' Γ',Zai Γ0 Γ' st'.hp∧ZF I I' w w'∧(∀ b,I' b→I b∨F b)∧Fr F w w'∧Sim nt F A I' Γ' (Ws st'.nx) st'.sl st'.hp a' w'
theorem Ww.refl {I:Nat→Prop} {Γ:Gh} {st:St} {a:Act} {w:World} (h:Sim nt F A I Γ (Ws st.nx) st.sl st.hp a w) (hc:Zai Γ0 Γ st.hp):Ww nt F A Γ0 I w st a w:=
 ⟨I,Γ,hc,ZF.refl I w,fun _ h=>.inl h,Fr.refl F w,h⟩
theorem Ww.step {I I1:Nat→Prop} {w w1 w' : World} {aa : St} {a' : Act} (hk:ZF I I1 w w1) (hs:∀ b,I1 b→I b∨F b) (hf:Fr F w w1) (h:Ww nt F A Γ0 I1 w1 aa a' w'):Ww nt F A Γ0 I w aa a' w':=by
 obtain⟨I',Γ',h1,h2,h3,h4,h5⟩:=h;refine⟨I',Γ',h1,hk.trans h2,fun b hb=>?_,hf.trans h4,h5⟩;rcases h3 b hb with h6 | h6
 ·exact hs b h6
 ·exact .inr h6
theorem Vm.cpre {Γ Γ' : Gh} {hp hp' : Hp} (hg:ZX Γ Γ') (hc:Zai Γ0 Γ hp):Zai Γ0 Γ' hp':=fun k r hk=>hg k r (hc k r hk)
theorem Zm2 {I:Nat→Prop} {Γ:Gh} {U:Nat→Prop} {sl:Sl} {hp:Hp} {a:Act} {w:World} (h:Sim nt F A I Γ U sl hp a w) {ops:Array Oper} {o:Oper} {g:Option (Nat×Bool)} (hg:Zih ops.toList o.guard=some g)
  {b:Bool} (hw:ZK sl g=some b):Region.wanted o (yielded ops a.tmps)=b:=by
 unfold Region.wanted;cases ho:o.guard with
 | none=>
  rw[ho] at hg;simp only[Zih] at hg;cases hg;simp only[ZK] at hw;cases hw;rfl
 | some q=>
  rw[ho] at hg;simp only[Zih] at hg;obtain⟨g',h1,hg⟩:=Za hg;obtain⟨t,h2,hg⟩:=Za hg;cases hg;simp only[ZK] at hw;have hr:=h.slots t;have ad : ops[q.1]?=some g':=by simpa using h1
  have hy:yielded ops a.tmps q.1=match a.tmps[t]? with
   | some (.bool b)=>some b
   | _=>none:=by unfold yielded;rw[ad];simp only[KE,h2];rfl
  unfold ZaV at hw;split at hw
  ·rename_i b' aa;cases hw;rw[aa] at hr;have h3:=Zab hr;have h4:a.tmps[t]?=some (.bool b'):=by
    cases ht:a.tmps[t]? with
    | none=>simp[ht,undef] at h3
    | some v=>simp[ht] at h3;rw[h3]
   obtain⟨qj,qw⟩:=q;simp only at hy ⊢;rw[hy,h4];cases b' <;> cases qw<;>rfl
  ·rename_i aa;cases hw;rw[aa] at hr;obtain⟨us,h3,h4⟩:=hr;have h5:∀ b',a.tmps[t]?≠some (.bool b'):=by
    intro b' ab;simp[ab] at h3
   obtain⟨qj,qw⟩:=q;simp only at hy ⊢;rw[hy];cases ht:a.tmps[t]? with
   | none=>rfl
   | some v=>
    cases v<;>first | rfl | (exfalso;exact h5 _ ht)
  ·cases hw
theorem Zfu {Γ:Gh} {w:World} {I:Nat→Prop}:Rep Γ w I (.tup []) undef:=⟨#[],rfl,trivial⟩
theorem ZdG {ops:List Oper} {o:Oper} {co:CO} (h:Zf8 P nt ops o=some co):Zih ops o.guard=some co.guard∧YF (cOp P o.type o.op)=co.op∧Qz nt o.dst=true∧co.dst=o.dst:=by
 unfold Zf8 at h;obtain⟨g,h1,h⟩:=Za h;split at h
 ·cases h;exact⟨h1,rfl,by assumption,rfl⟩
 ·cases h
theorem Q0 {base:Nat} {dst:Option Nat} {sl:Sl} {hp:Hp} {e:Option Zb} {r:Sl×Hp} (h:XQ base dst sl hp e=some r):∃ ce,e=some ce∧QD base (base+64) ce.eff.adds=true∧r=ce.on dst sl hp:=by
 unfold XQ at h;obtain⟨ce,h1,h⟩:=Za h;split at h
 ·cases h;exact⟨ce,h1,by assumption,rfl⟩
 ·cases h
theorem ZrW {ops:Array Oper} {i:Nat} {o:Oper} {aa:List Oper} (h:ops.toList.drop i=o :: aa):ops[i]?=some o∧ops.toList.drop (i+1)=aa∧i<ops.size:=by
 have h1:(ops.toList.drop i)[0]?=some o:=by rw[h];rfl
 rw[KL] at h1;have h2:ops[i]?=some o:=by simpa using h1
 refine⟨h2,?_,(KB.1 h2).1⟩;rw[← LM,h];rfl
theorem Zol {C:Orc} {M:Zh} (hC:Qf P C) {ops:Array Oper} {Q:Exit→Act→World→Prop} {nx m:Nat} :
  ∀ (os:List CO) (i:Nat) {sl:Sl} {hp:Hp} {r:Sl×Hp} {I:Nat→Prop} {Γ:Gh} {a:Act} {w:World},i≤ops.size→Qe (Zf8 P nt ops.toList) (ops.toList.drop i)=some (Zfq os)→ZbS C M nx i os sl hp=some r →
   Sim nt F A I Γ (Ws (nx+64*i)) sl hp a w→Zai Γ0 Γ hp→(∀ a' w',Ww nt F A Γ0 I w { sl:=r.1,hp:=r.2,nx:=nx+64*ops.size,m:=m } a' w'→Q .normal a' w') →
   wpOps P ops Q (List.range' i (ops.size-i)) a w:=by
 intro os
 induction os with
 | nil=>
  intro i sl hp r I Γ a w ag aa hv hS hc hQ;have hd:ops.toList.drop i=[]:=by
   cases hd:ops.toList.drop i with
   | nil=>rfl
   | cons o rest=>
    rw[hd] at aa;simp only[Qe] at aa;obtain⟨_,_,aa⟩:=Za aa;obtain⟨_,_,aa⟩:=Za aa;simp[Zfq] at aa
  have hi:ops.size≤i:=by
   have:=List.drop_eq_nil_iff.1 hd;simpa using this
  have ak:i=ops.size:=by omega
  subst ak;rw[show ops.size-ops.size=0 by omega];simp only[ZbS] at hv;cases hv;simp only[List.range',wpOps];exact hQ a w (Ww.refl (st := { sl:=sl,hp:=hp,nx:=nx+64*ops.size,m:=m }) hS hc)
 | cons co os ih=>
  intro i sl hp r I Γ a w ag aa hv hS hc hQ;cases hd:ops.toList.drop i with
  | nil=>rw[hd] at aa;simp[Qe,Zfq] at aa
  | cons o rest=>
   obtain⟨ho,ad,an⟩:=ZrW hd;rw[hd] at aa;simp only[Qe] at aa;obtain⟨ao,h1,aa⟩:=Za aa;obtain⟨ap,h2,aa⟩:=Za aa;simp only[Zfq,Option.some.injEq,List.cons.injEq] at aa;obtain⟨rfl,rfl⟩:=aa;obtain⟨hg,ai,ae,aj⟩:=ZdG h1;dsimp only at hg ai aj;rw[show ops.size-i=(ops.size-(i+1))+1 by omega,List.range'_succ];simp only[ZbS] at hv;obtain⟨b,hw,hv⟩:=Za hv;have af:=Zm2 hS hg hw;simp only[wpOps,ho,af];rw[aj] at hv;cases b with
   | true=>
    simp only[Kk] at hv ⊢;obtain⟨q,hq,hv⟩:=Za hv;obtain⟨ce,al,am,rfl⟩:=Q0 hq;refine .inl (Zsy hC hS ai (Zfs _) ae am al _ _ fun u w' hp'=>?_);obtain⟨I1,Γ1,b1,b2,b3,b4,b5⟩:=hp';refine ih (i+1) (by omega) (by rw[ad];exact h2) hv (by rw[show nx+64*(i+1)=nx+64*i+64 by omega];exact b5.more Zft) (Vm.cpre b1 hc) fun a' ah ab=>hQ a' ah (ab.step b2 b3 b4)
   | false=>
    simp only[Ka,Km] at hv ⊢;obtain⟨I1,Γ1,b1,b2,b3,b4,b5⟩:=hS.pure (U':=Ws (nx+64*(i+1))) (v:=.tup []) (u:=undef) (dst:=o.dst) (ZsZ (by omega)) Zfu ae;exact ih (i+1) (by omega) (by rw[ad];exact h2) hv b5 (Vm.cpre b1 hc) fun a' ah ab=>hQ a' ah (ab.step b2 b3 b4)
theorem Zex {hp:Hp} {ids:List Nat}:∀ {l:List Nat} {i:Nat},i∈l→i∉ZbT hp ids l→JP hp ids i=true
 | [],i,h,_=>by simp at h
 | x :: r,i,h,hn=>by
  simp only[ZbT] at hn;cases hl:JP hp ids x with
  | true=>
   rw[hl] at hn;simp only[Kk] at hn;rcases Ke.1 h with rfl | h
   ·exact hl
   ·exact Zex h hn
  | false=>
   rw[hl] at hn;simp only[Ka,Km,Ke,not_or] at hn;rcases Ke.1 h with rfl | h
   ·exact absurd rfl hn.1
   ·exact Zex h hn.2
def Ji (_:Hp) (ids:List Nat) (Γ:Gh):Gh:=fun k=>match ids[k]? with
 | some id=>Γ id
 | none=>none
theorem Zkg {hp:Hp} {ids:List Nat} {Γ:Gh} {id:Nat} (h:JP hp ids id=true):Ji hp ids Γ (YD ids id)=Γ id:=by
 simp only[JP,Kb,KJ,Kj] at h;simp only[Ji,(Zd0 h.1).2]
section
variable {I:Nat→Prop} {Γ:Gh} {U:Nat→Prop} {sl:Sl} {hp:Hp} {a:Act} {w:World}
theorem ZiG (ids:List Nat) {x:AV} {v:Value} (h:Rep Γ w I x v):Rep (Ji hp ids Γ) w I (Zah hp ids x) v:=by
 refine ZgI (fun id aa r hr=>?_) (ZF.refl I w) (Zma (bad:=ZbT hp ids (Zl x)) h);obtain⟨h1,h2⟩:=ZjJ _ _ id aa;rw[Zkg (Zex h1 h2)];exact hr
theorem ZrX {ids:List Nat} {k id:Nat} (hk:ids[k]?=some id) {o:Zf} (hl:lkp hp id=some o) (ho:XW Γ w I F A id o):XW (Ji hp ids Γ) w I F A k (ZbU hp ids o):=by
 have hG:Ji hp ids Γ k=Γ id:=by simp[Ji,hk]
 cases o with
 | box cs=>
  obtain⟨b,cur,e,h1,h2,h3,h4,h5,ab⟩:=ho;refine⟨b,cur,e,by rw[hG,h1],h2,h3,h4,?_,(ab.map (VO _)).map (UH _)⟩;have h6:Zm (Q3 Γ w I) (cs.map (ZE (ZbT hp ids (Wb (.box cs))))) cur.toList:=h5.map_left fun _ _ h=>Ze2 h;refine J5 (fun ae aa r hr=>?_) (ZF.refl I w) h6;obtain⟨y,hy,aa⟩:=Kp.1 aa;obtain⟨x,hx,rfl⟩:=K8.1 hy;obtain⟨h7,h8⟩:=Zdk _ x ae aa;rw[Zkg (Zex (Kp.2 ⟨x,hx,h7⟩) h8)];exact hr
 | row sz xs ex fz=>
  obtain⟨ad,n,c,h1,h2⟩:=ho;exact⟨ad,n,c,by rw[hG,h1],h2⟩
 | gone=>
  obtain⟨r,h1⟩:=ho;exact⟨r,by rw[hG,h1]⟩
 | tree sz ns xs lk=>
  obtain⟨ad,n,c,h1,h2,h3⟩:=ho;refine⟨ad,n,c,by rw[hG,h1],?_,XE.lose (XE.kill (Γ':=Γ) h3 (fun _ _ _ h=>h) fun _ _=>rfl)⟩;rw[V1,V2];exact h2
theorem Zom (h:Sim nt F A I Γ U sl hp a w) {ids:List Nat} (af:ids.Nodup) (ae:∀ id∈ids,∃ r,Γ id=some r) :
  WC (Ji hp ids Γ) w I F A (YJ 0 ((JK hp ids).map (ZbU hp ids))) ∧
  (∀ i j o o' b,lkp (YJ 0 ((JK hp ids).map (ZbU hp ids))) i=some o→lkp (YJ 0 ((JK hp ids).map (ZbU hp ids))) j=some o'→Blk (Ji hp ids Γ) w i o b→Blk (Ji hp ids Γ) w j o' b→i=j) ∧
  (∀ id,ids.length≤id→Ji hp ids Γ id=none):=by
 have get:∀ k o,lkp (YJ 0 ((JK hp ids).map (ZbU hp ids))) k=some o→∃ id,ids[k]?=some id∧o=ZbU hp ids (ZmJ (lkp hp id)):=by
  intro k o hk;rw[Vt] at hk;simp only[LX,Kk,Nat.sub_zero,K3,Zhx,Option.map_map] at hk;cases hi:ids[k]? with
  | none=>rw[hi] at hk;cases hk
  | some id=>
   rw[hi] at hk;simp only[KN,Option.some.injEq,Function.comp_apply] at hk;exact⟨id,rfl,hk.symm⟩
 refine⟨fun k o hk=>?_,fun i j o o' b hi hj aa ab=>?_,fun id ag=>?_⟩
 ·obtain⟨id,h1,rfl⟩:=get k o hk;cases hl:lkp hp id with
  | none=>
   obtain⟨r,hr⟩:=ae id (Kr h1);exact⟨r,by simp[Ji,h1,hr]⟩
  | some o0=>exact ZrX h1 hl (h.objs id o0 hl)
 ·obtain⟨id,h1,rfl⟩:=get i o hi;obtain⟨ad,h2,rfl⟩:=get j o' hj;have bk:∀ (k id:Nat) (o0:Zf),Ji hp ids Γ k=Γ id→Blk (Ji hp ids Γ) w k (ZbU hp ids o0) b→Blk Γ w id o0 b:=by
   intro k id o0 e hb;rcases hb with hb | hb | hb
   ·unfold ZbU at hb;rw[Zfl,ZdC,e] at hb;exact .inl hb
   ·cases o0 with
    | box cs=>exact False.elim hb
    | row sz xs ex fz=>exact False.elim hb
    | gone=>exact False.elim hb
    | tree sz ns xs lk=>
     obtain⟨g,p,h5,h6⟩:=hb;rw[V1,V2] at h6;exact .inr (.inl ⟨g,p,e ▸ h5,h6⟩)
   ·cases o0 with
    | box cs=>exact .inr (.inr ((Buf.unmap (VO _) (Buf.unmap (UH _) hb)).ren e.symm))
    | row sz xs ex fz=>exact False.elim hb
    | gone=>exact False.elim hb
    | tree sz ns xs lk=>exact False.elim hb
  cases hl:lkp hp id with
  | none=>rw[hl] at aa;exact aa.isGone.elim
  | some o0=>
   cases hl' : lkp hp ad with
   | none=>rw[hl'] at ab;exact ab.isGone.elim
   | some o1=>
    have e1:Ji hp ids Γ i=Γ id:=by simp[Ji,h1]
    have e2:Ji hp ids Γ j=Γ ad:=by simp[Ji,h2]
    rw[hl] at aa;rw[hl'] at ab;have:=h.inj id ad o0 o1 b hl hl' (bk i id o0 e1 aa) (bk j ad o1 e2 ab);subst this;exact ZjK af h1 h2
 ·simp[Ji,KQ ag]
theorem UA (hp:Hp):∀ (n:Nat) (todo aa:List Nat),∃ t,QF hp n todo aa=aa++t
 | 0,todo,aa=>⟨[],by simp[QF]⟩
 | n+1,[],aa=>⟨[],by simp[QF]⟩
 | n+1,id :: todo,aa=>by
  simp only[QF];split
  ·exact UA hp n todo aa
  ·cases lkp hp id with
   | none=>simp only[Wj];exact UA hp n todo aa
   | some o=>
    simp only[Wj];obtain⟨t,ht⟩:=UA hp n (todo++Wb o) (aa++[id]);exact⟨id :: t,by rw[ht];simp⟩
theorem Zm3 {hp:Hp} {n m:Nat} {todo:List Nat} {k:Nat} (hk:k<m):(QF hp n todo (List.range m))[k]?=some k:=by
 obtain⟨t,ht⟩:=UA hp n todo (List.range m);rw[ht,KK (by simpa using hk)];simp[hk]
theorem Zkh {n m:Nat} {todo:List Nat} {hp' : Hp} (hc:Zai Γ0 Γ hp) (hm:ZiF Γ0 m) :
  Zai Γ0 (Ji hp (QF hp n todo (List.range m)) Γ) hp':=by
 intro k r hk;have aa:k<m:=by
  rcases KO k m with h | h
  ·exact h
  ·rw[hm.1 k h] at hk;cases hk
 simp only[Ji,Zm3 (hp:=hp) (n:=n) (todo:=todo) aa];exact hc k r hk
theorem ZbY (h:Sim nt F A I Γ U sl hp a w) {n m:Nat} {todo:List Nat} (hc:Zai Γ0 Γ hp) (hm:ZiF Γ0 m):∀ id∈QF hp n todo (List.range m),∃ r,Γ id=some r:=by
 intro id aa;rcases (Wc hp n todo (List.range m) LQ).2.2 id aa with h1 | ⟨o,ho⟩
 ·obtain⟨r,hr⟩:=hm.2 id (by simpa using h1);exact⟨r,hc id r hr⟩
 ·have:=h.objs id o ho;cases o with
  | box cs=>obtain⟨b,cur,e,h1,_⟩:=this;exact⟨_,h1⟩
  | row sz xs ex fz=>obtain⟨ad,n,c,h1,_⟩:=this;exact⟨_,h1⟩
  | tree sz ns xs lk=>obtain⟨ad,n,c,h1,_⟩:=this;exact⟨_,h1⟩
  | gone=>exact this
theorem Zey {α:Type} (K:List Nat):∀ (l:List (Nat×α)) (t:Nat),lkp (only K l) t=if K.contains t then lkp l t else none
 | [],t=>by simp[only,lkp]
 | (k,v) :: r,t=>by
  simp only[only];by_cases hk:K.contains k=true
  ·rw[Ko hk];simp only[lkp,Zey K r];by_cases aa:k=t
   ·subst aa;simp only[Kk,hk]
   ·simp only[Kf aa]
  ·rw[Kf hk,Zey K r];simp only[lkp];by_cases aa:k=t
   ·subst aa;simp only[Kk];rw[Kf hk,Kf hk]
   ·simp only[Kf aa]
end
theorem Zqo {I:Nat→Prop} {Γ:Gh} {st:St} {a:Act} {w:World} (h:Sim nt F A I Γ (Ws st.nx) st.sl st.hp a w) (hc:Zai Γ0 Γ st.hp) (hm:ZiF Γ0 st.m) (K:List Nat) :
  ∃ Γ',Sim nt F A I Γ' (Ws (VY K st).nx) (VY K st).sl (VY K st).hp a w∧Zai Γ0 Γ' (VY K st).hp:=by
 have aa:=(Wc st.hp (Xe st.hp) (Zke (only K st.sl)++Vc st.hp (List.range st.m)) (List.range st.m) LQ).1;obtain⟨h1,h2,h3⟩:=Zom h aa (ZbY h hc hm);refine⟨Ji st.hp (QF st.hp (Xe st.hp) (Zke (only K st.sl)++Vc st.hp (List.range st.m)) (List.range st.m)) Γ,
  { nt:=h.nt,dfr:=h.dfr,slots:=fun t=>?_,objs:=h1,inj:=h2,bound:=h.bound,fresh:=h.fresh,own:=h.own,names:=fun id ab=>h3 id (Nat.le_of_not_lt ab),glob:=h.glob },Zkh hc hm⟩
 show Rep _ w I (gs (ZeY _ (only K st.sl)) t) _;simp only[gs,Zb0,Zey];have hs:=h.slots t;simp only[gs] at hs;by_cases hK:K.contains t=true
 ·rw[Ko hK];cases hl:lkp st.sl t with
  | none=>exact trivial
  | some v=>rw[hl] at hs;exact ZiG _ hs
 ·rw[Kf hK];exact trivial
end
end Go.Abs
