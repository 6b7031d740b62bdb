/- Own text. -/
import Derived.Test.YtefabmohhbhlfaaAbsCall4
import Derived.Orders
set_option linter.unusedVariables false
set_option linter.unusedSimpArgs false
namespace Go.Abs
open Go
section
variable {P:Program} {nt:Nat} {F A:Nat→Prop} {Γ0:Gh}
def W7 (n:Nat):Nat→Prop:=fun id=>id<n
theorem Zgp (n:Nat):QJ (W7 n) n:=fun id h _ hu=>by simp only[W7] at hu;omega
theorem Zgq {n:Nat}:∀ id,W3 (W7 n) n id→W7 (n+64) id:=fun id h=>by
 simp only[W3,W7] at h ⊢;omega
theorem Zqu {n m:Nat} (h:n≤m):∀ id,W7 n id→W7 m id:=fun id hu=>by simp only[W7] at hu ⊢;omega
def ZbZ (Γ0 Γ:Gh) (_:Hp):Prop:=Z6 Γ0 Γ
def ZjT (Γ0:Gh) (m:Nat):Prop:=(∀ k,m≤k→Γ0 k=none)∧∀ k,k<m→∃ r,Γ0 k=some r
def W8 (nt:Nat) (F A:Nat→Prop) (Γ0:Gh) (I:Nat→Prop) (w:World) (st' : St) (a' : Act) (w' : World):Prop:=
 ∃ I' Γ',ZbZ Γ0 Γ' st'.hp∧ZF I I' w w'∧(∀ b,I' b→I b∨F b)∧Fr F w w'∧Sim nt F A I' Γ' (W7 st'.nx) st'.sl st'.hp a' w'
theorem W8.refl {I:Nat→Prop} {Γ:Gh} {st:St} {a:Act} {w:World} (h:Sim nt F A I Γ (W7 st.nx) st.sl st.hp a w) (hc:ZbZ Γ0 Γ st.hp):W8 nt F A Γ0 I w st a w:=
 ⟨I,Γ,hc,ZF.refl I w,fun _ h=>.inl h,Fr.refl F w,h⟩
theorem W8.step {I I1:Nat→Prop} {w w1 w' : World} {aa : St} {a' : Act} (hk:ZF I I1 w w1) (hs:∀ b,I1 b→I b∨F b) (hf:Fr F w w1) (h:W8 nt F A Γ0 I1 w1 aa a' w'):W8 nt F A Γ0 I w aa a' w':=by
 obtain⟨I',Γ',h1,h2,h3,h4,h5⟩:=h;refine⟨I',Γ',h1,hk.trans h2,fun b hb=>?_,hf.trans h4,h5⟩;rcases h3 b hb with h6 | h6
 ·exact hs b h6
 ·exact .inr h6
theorem YB.cpre {Γ Γ' : Gh} {hp hp' : Hp} (hg:Z6 Γ Γ') (hc:ZbZ Γ0 Γ hp):ZbZ Γ0 Γ' hp':=fun k r hk=>hg k r (hc k r hk)
theorem Zob {I:Nat→Prop} {Γ:Gh} {U:Nat→Prop} {sl:Sl} {hp:Hp} {a:Act} {w:World} (h:Sim nt F A I Γ U sl hp a w) {ops:Array Oper} {o:Oper} {g:Option (Nat×Bool)} (hg:Zju ops.toList o.guard=some g)
  {b:Bool} (hw:ZR sl g=some b):Region.wanted o (yielded ops a.tmps)=b:=by
 unfold Region.wanted;cases ho:o.guard with
 | none=>
  rw[ho] at hg;simp only[Zju] at hg;cases hg;simp only[ZR] at hw;cases hw;rfl
 | some q=>
  rw[ho] at hg;simp only[Zju] at hg;obtain⟨g',h1,hg⟩:=Za hg;obtain⟨t,h2,hg⟩:=Za hg;cases hg;simp only[ZR] at hw;have hr:=h.slots t;have ad : ops[q.1]?=some g':=by simpa using h1
  have hy:yielded ops a.tmps q.1=match a.tmps[t]? with
   | some (.bool b)=>some b
   | _=>none:=by unfold yielded;rw[ad];simp only[Option.bind_some,h2];rfl
  unfold ZbP at hw;split at hw
  ·rename_i b' aa;cases hw;rw[aa] at hr;have h3:=Za6 hr;have h4:a.tmps[t]?=some (.bool b'):=by
    cases ht:a.tmps[t]? with
    | none=>simp[ht,undef] at h3
    | some v=>simp[ht] at h3;rw[h3]
   obtain⟨qj,qw⟩:=q;simp only at hy ⊢;rw[hy,h4];cases b' <;> cases qw<;>rfl
  ·rename_i aa;cases hw;rw[aa] at hr;obtain⟨us,h3,h4⟩:=hr;have h5:∀ b',a.tmps[t]?≠some (.bool b'):=by
    intro b' ab;simp[ab] at h3
   obtain⟨qj,qw⟩:=q;simp only at hy ⊢;rw[hy];cases ht:a.tmps[t]? with
   | none=>rfl
   | some v=>
    cases v<;>first | rfl | (exfalso;exact h5 _ ht)
  ·cases hw
theorem Zgr {Γ:Gh} {w:World} {I:Nat→Prop}:Rep Γ w I (.tup []) undef:=⟨#[],rfl,trivial⟩
theorem Zb0 {ops:List Oper} {o:Oper} {co:CO} (h:Zg3 P nt ops o=some co):Zju ops o.guard=some co.guard∧YZ (cOp P o.type o.op)=co.op∧Qv nt o.dst=true∧co.dst=o.dst:=by
 unfold Zg3 at h;obtain⟨g,h1,h⟩:=Za h;split at h
 ·cases h;exact⟨h1,rfl,by assumption,rfl⟩
 ·cases h
theorem Q1 {base:Nat} {dst:Option Nat} {sl:Sl} {hp:Hp} {e:Option Zb} {r:Sl×Hp} (h:XQ base dst sl hp e=some r):∃ ce,e=some ce∧QA base (base+64) ce.eff.adds=true∧r=ce.on dst sl hp:=by
 unfold XQ at h;obtain⟨ce,h1,h⟩:=Za h;split at h
 ·cases h;exact⟨ce,h1,by assumption,rfl⟩
 ·cases h
theorem Zs6 {ops:Array Oper} {i:Nat} {o:Oper} {aa:List Oper} (h:ops.toList.drop i=o :: aa):ops[i]?=some o∧ops.toList.drop (i+1)=aa∧i<ops.size:=by
 have h1:(ops.toList.drop i)[0]?=some o:=by rw[h];rfl
 rw[Ld] at h1;have h2:ops[i]?=some o:=by simpa using h1
 refine⟨h2,?_,(KJ.1 h2).1⟩;rw[← List.drop_drop,h];rfl
def Zbc (l:List Nat) (a a' : Act):Prop:=∀ t,t∉l→a'.tmps.getD t undef=a.tmps.getD t undef
theorem Zbc.step {l:List Nat} {a a' : Act} {d:Option Nat} {u:Value} (h:Zbc l (a.put d u) a'):Zbc (ZjM d l) a a':=fun t ht=>by
 cases d with
 | none=>exact h t ht
 | some k=>
  simp only[ZjM,Ke,not_or] at ht;rw[h t ht.2];simp[Act.put,Array.getD_eq_getD_getElem?,Array.getElem?_setIfInBounds,Ne.symm ht.1]
theorem YB.trans {I I1:Nat→Prop} {Γ Γ1:Gh} {w w1 w' : World} {U' : Nat→Prop} {sl' : Sl} {hp' : Hp} {a' : Act} (hg:Z6 Γ Γ1) (hk:ZF I I1 w w1) (hs:∀ b,I1 b→I b∨F b) (hf:Fr F w w1) (h:YB nt F A I1 Γ1 w1 U' sl' hp' a' w'):YB nt F A I Γ w U' sl' hp' a' w':=by
 obtain⟨I',Γ',h1,h2,h3,h4,h5⟩:=h;refine⟨I',Γ',fun k r hr=>h1 k r (hg k r hr),hk.trans h2,fun b hb=>?_,hf.trans h4,h5⟩;rcases h3 b hb with h6 | h6
 ·exact hs b h6
 ·exact .inr h6
theorem ZjU {C:Orc} {M:Zf} (hC:Qo P C) {ops:Array Oper} {Q:Exit→Act→World→Prop} {nx:Nat} :
  ∀ (os:List CO) (i:Nat) {sl:Sl} {hp:Hp} {r:Sl×Hp} {I:Nat→Prop} {Γ:Gh} {a:Act} {w:World},i≤ops.size→Qi (Zg3 P nt ops.toList) (ops.toList.drop i)=some (Zgn os)→ZbT C M nx i os sl hp=some r →
   Sim nt F A I Γ (W7 (nx+64*i)) sl hp a w→(∀ a' w',YB nt F A I Γ w (W7 (nx+64*ops.size)) r.1 r.2 a' w'→Zbc (W6 os) a a'→Q .normal a' w') →
   wpOps P ops Q (List.range' i (ops.size-i)) a w:=by
 intro os
 induction os with
 | nil=>
  intro i sl hp r I Γ a w ah aa hv hS hQ;have hd:ops.toList.drop i=[]:=by
   cases hd:ops.toList.drop i with
   | nil=>rfl
   | cons o rest=>
    rw[hd] at aa;simp only[Qi] at aa;obtain⟨_,_,aa⟩:=Za aa;obtain⟨_,_,aa⟩:=Za aa;simp[Zgn] at aa
  have hi:ops.size≤i:=by
   have:=List.drop_eq_nil_iff.1 hd;simpa using this
  have ak:i=ops.size:=by omega
  subst ak;rw[show ops.size-ops.size=0 by omega];simp only[ZbT] at hv;cases hv;simp only[List.range',wpOps];exact hQ a w ⟨I,Γ,fun _ _ h=>h,ZF.refl I w,fun _ h=>.inl h,Fr.refl F w,hS⟩ fun _ _=>rfl
 | cons co os ih=>
  intro i sl hp r I Γ a w ah aa hv hS hQ;cases hd:ops.toList.drop i with
  | nil=>rw[hd] at aa;simp[Qi,Zgn] at aa
  | cons o rest=>
   obtain⟨ho,ad,an⟩:=Zs6 hd;rw[hd] at aa;simp only[Qi] at aa;obtain⟨ao,h1,aa⟩:=Za aa;obtain⟨ap,h2,aa⟩:=Za aa;simp only[Zgn,Option.some.injEq,List.cons.injEq] at aa;obtain⟨rfl,rfl⟩:=aa;obtain⟨hg,aj,ae,ag⟩:=Zb0 h1;dsimp only at hg aj ag;rw[show ops.size-i=(ops.size-(i+1))+1 by omega,List.range'_succ];simp only[ZbT] at hv;obtain⟨b,hw,hv⟩:=Za hv;have af:=Zob hS hg hw;simp only[wpOps,ho,af];rw[ag] at hv;cases b with
   | true=>
    simp only[Kg] at hv ⊢;obtain⟨q,hq,hv⟩:=Za hv;obtain⟨ce,al,am,rfl⟩:=Q1 hq;refine .inl (Zt2 hC hS aj (Zgp _) ae am al _ _ fun u w' hp'=>?_);obtain⟨I1,Γ1,b1,b2,b3,b4,b5⟩:=hp';refine ih (i+1) (by omega) (by rw[ad];exact h2) hv (by rw[show nx+64*(i+1)=nx+64*i+64 by omega];exact b5.more Zgq) fun a' ai ab hs=>hQ a' ai (ab.trans b1 b2 b3 b4) (by simp only[W6];rw[ag];exact hs.step)
   | false=>
    simp only[Ka,Kf] at hv ⊢;obtain⟨I1,Γ1,b1,b2,b3,b4,b5⟩:=hS.pure (U':=W7 (nx+64*(i+1))) (v:=.tup []) (u:=undef) (dst:=o.dst) (Zqu (by omega)) Zgr ae;exact ih (i+1) (by omega) (by rw[ad];exact h2) hv b5 fun a' ai ab hs=>hQ a' ai (ab.trans b1 b2 b3 b4) (by simp only[W6];rw[ag];exact hs.step)
theorem Zfw {hp:Hp} {ids:List Nat}:∀ {l:List Nat} {i:Nat},i∈l→i∉ZcI hp ids l→ZaN hp ids i=true
 | [],i,h,_=>by simp at h
 | x :: r,i,h,hn=>by
  simp only[ZcI] at hn;cases hl:ZaN hp ids x with
  | true=>
   rw[hl] at hn;simp only[Kg] at hn;rcases Ke.1 h with rfl | h
   ·exact hl
   ·exact Zfw h hn
  | false=>
   rw[hl] at hn;simp only[Ka,Kf,Ke,not_or] at hn;rcases Ke.1 h with rfl | h
   ·exact absurd rfl hn.1
   ·exact Zfw h hn.2
def J3 (_:Hp) (ids:List Nat) (Γ:Gh):Gh:=fun k=>match ids[k]? with
 | some id=>Γ id
 | none=>none
theorem Zlx {hp:Hp} {ids:List Nat} {Γ:Gh} {id:Nat} (h:ZaN hp ids id=true):J3 hp ids Γ (YX ids id)=Γ id:=by
 simp only[ZaN,Kb,KP,Kj] at h;simp only[J3,(ZeU h.1).2]
section
variable {I:Nat→Prop} {Γ:Gh} {U:Nat→Prop} {sl:Sl} {hp:Hp} {a:Act} {w:World}
theorem ZjV (ids:List Nat) {x:AV} {v:Value} (h:Rep Γ w I x v):Rep (J3 hp ids Γ) w I (Zbb hp ids x) v:=by
 refine ZhD (fun id aa r hr=>?_) (ZF.refl I w) (Zni (bad:=ZcI hp ids (Zo x)) h);obtain⟨h1,h2⟩:=ZkZ _ _ id aa;rw[Zlx (Zfw h1 h2)];exact hr
theorem Zs7 {ids:List Nat} {k id:Nat} (hk:ids[k]?=some id) {o:Zg} (hl:lkp hp id=some o) (ho:XZ Γ w I F A id o):XZ (J3 hp ids Γ) w I F A k (ZcJ hp ids o):=by
 have hG:J3 hp ids Γ k=Γ id:=by simp[J3,hk]
 cases o with
 | box cs=>
  obtain⟨b,cur,e,h1,h2,h3,h4,h5,ab⟩:=ho;refine⟨b,cur,e,by rw[hG,h1],h2,h3,h4,?_,(ab.map (Wl _)).map (Jq _)⟩;have h6:Zr (Xd Γ w I) (cs.map (ZH (ZcI hp ids (WP (.box cs))))) cur.toList:=h5.map_left fun _ _ h=>Zf0 h;refine Za0 (fun ae aa r hr=>?_) (ZF.refl I w) h6;obtain⟨y,hy,aa⟩:=Kr.1 aa;obtain⟨x,hx,rfl⟩:=KQ.1 hy;obtain⟨h7,h8⟩:=Zd7 _ x ae aa;rw[Zlx (Zfw (Kr.2 ⟨x,hx,h7⟩) h8)];exact hr
 | row sz xs ex fz=>
  obtain⟨ad,n,c,h1,h2⟩:=ho;exact⟨ad,n,c,by rw[hG,h1],h2⟩
 | gone=>
  obtain⟨r,h1⟩:=ho;exact⟨r,by rw[hG,h1]⟩
 | tree sz ns xs lk=>
  obtain⟨ad,n,c,h1,h2,h3⟩:=ho;refine⟨ad,n,c,by rw[hG,h1],?_,XG.lose (XG.kill (Γ':=Γ) h3 (fun _ _ _ h=>h) fun _ _=>rfl)⟩;rw[Ww,Wx];exact h2
theorem Zpz (h:Sim nt F A I Γ U sl hp a w) {ids:List Nat} (af:ids.Nodup) (ae:∀ id∈ids,∃ r,Γ id=some r) :
  Uo (J3 hp ids Γ) w I F A (Vn 0 ((ZaH hp ids).map (ZcJ hp ids))) ∧
  (∀ i j o o' b,lkp (Vn 0 ((ZaH hp ids).map (ZcJ hp ids))) i=some o→lkp (Vn 0 ((ZaH hp ids).map (ZcJ hp ids))) j=some o'→Blk (J3 hp ids Γ) w i o b→Blk (J3 hp ids Γ) w j o' b→i=j) ∧
  (∀ id,ids.length≤id→J3 hp ids Γ id=none):=by
 have get:∀ k o,lkp (Vn 0 ((ZaH hp ids).map (ZcJ hp ids))) k=some o→∃ id,ids[k]?=some id∧o=ZcJ hp ids (ZnT (lkp hp id)):=by
  intro k o hk;rw[WS] at hk;simp only[LZ,Kg,Nat.sub_zero,Lo,ZiI,Option.map_map] at hk;cases hi:ids[k]? with
  | none=>rw[hi] at hk;cases hk
  | some id=>
   rw[hi] at hk;simp only[KU,Option.some.injEq,Function.comp_apply] at hk;exact⟨id,rfl,hk.symm⟩
 refine⟨fun k o hk=>?_,fun i j o o' b hi hj aa ab=>?_,fun id ag=>?_⟩
 ·obtain⟨id,h1,rfl⟩:=get k o hk;cases hl:lkp hp id with
  | none=>
   obtain⟨r,hr⟩:=ae id (Kp h1);exact⟨r,by simp[J3,h1,hr]⟩
  | some o0=>exact Zs7 h1 hl (h.objs id o0 hl)
 ·obtain⟨id,h1,rfl⟩:=get i o hi;obtain⟨ad,h2,rfl⟩:=get j o' hj;have bk:∀ (k id:Nat) (o0:Zg),J3 hp ids Γ k=Γ id→Blk (J3 hp ids Γ) w k (ZcJ hp ids o0) b→Blk Γ w id o0 b:=by
   intro k id o0 e hb;rcases hb with hb | hb | hb
   ·unfold ZcJ at hb;rw[Zgg,Zen,e] at hb;exact .inl hb
   ·cases o0 with
    | box cs=>exact False.elim hb
    | row sz xs ex fz=>exact False.elim hb
    | gone=>exact False.elim hb
    | tree sz ns xs lk=>
     obtain⟨g,p,h5,h6⟩:=hb;rw[Ww,Wx] at h6;exact .inr (.inl ⟨g,p,e ▸ h5,h6⟩)
   ·cases o0 with
    | box cs=>exact .inr (.inr ((Buf.unmap (Wl _) (Buf.unmap (Jq _) hb)).ren e.symm))
    | row sz xs ex fz=>exact False.elim hb
    | gone=>exact False.elim hb
    | tree sz ns xs lk=>exact False.elim hb
  cases hl:lkp hp id with
  | none=>rw[hl] at aa;exact aa.isGone.elim
  | some o0=>
   cases hl' : lkp hp ad with
   | none=>rw[hl'] at ab;exact ab.isGone.elim
   | some o1=>
    have e1:J3 hp ids Γ i=Γ id:=by simp[J3,h1]
    have e2:J3 hp ids Γ j=Γ ad:=by simp[J3,h2]
    rw[hl] at aa;rw[hl'] at ab;have:=h.inj id ad o0 o1 b hl hl' (bk i id o0 e1 aa) (bk j ad o1 e2 ab);subst this;exact Zk0 af h1 h2
 ·simp[J3,KR ag]
theorem Jl (hp:Hp):∀ (n:Nat) (todo aa:List Nat),∃ t,QF hp n todo aa=aa++t
 | 0,todo,aa=>⟨[],by simp[QF]⟩
 | n+1,[],aa=>⟨[],by simp[QF]⟩
 | n+1,id :: todo,aa=>by
  simp only[QF];split
  ·exact Jl hp n todo aa
  ·cases lkp hp id with
   | none=>simp only[WZ];exact Jl hp n todo aa
   | some o=>
    simp only[WZ];obtain⟨t,ht⟩:=Jl hp n (todo++WP o) (aa++[id]);exact⟨id :: t,by rw[ht];simp⟩
theorem Zoc {hp:Hp} {n m:Nat} {todo:List Nat} {k:Nat} (hk:k<m):(QF hp n todo (List.range m))[k]?=some k:=by
 obtain⟨t,ht⟩:=Jl hp n todo (List.range m);rw[ht,Ku (by simpa using hk)];simp[hk]
theorem Zly {n m:Nat} {todo:List Nat} {hp' : Hp} (hc:ZbZ Γ0 Γ hp) (hm:ZjT Γ0 m) :
  ZbZ Γ0 (J3 hp (QF hp n todo (List.range m)) Γ) hp':=by
 intro k r hk;have aa:k<m:=by
  rcases KX k m with h | h
  ·exact h
  ·rw[hm.1 k h] at hk;cases hk
 simp only[J3,Zoc (hp:=hp) (n:=n) (todo:=todo) aa];exact hc k r hk
theorem ZcN (h:Sim nt F A I Γ U sl hp a w) {n m:Nat} {todo:List Nat} (hc:ZbZ Γ0 Γ hp) (hm:ZjT Γ0 m):∀ id∈QF hp n todo (List.range m),∃ r,Γ id=some r:=by
 intro id aa;rcases (WR hp n todo (List.range m) Kad).2.2 id aa with h1 | ⟨o,ho⟩
 ·obtain⟨r,hr⟩:=hm.2 id (by simpa using h1);exact⟨r,hc id r hr⟩
 ·have:=h.objs id o ho;cases o with
  | box cs=>obtain⟨b,cur,e,h1,_⟩:=this;exact⟨_,h1⟩
  | row sz xs ex fz=>obtain⟨ad,n,c,h1,_⟩:=this;exact⟨_,h1⟩
  | tree sz ns xs lk=>obtain⟨ad,n,c,h1,_⟩:=this;exact⟨_,h1⟩
  | gone=>exact this
theorem Zfx {α:Type} (K:List Nat):∀ (l:List (Nat×α)) (t:Nat),lkp (only K l) t=if K.contains t then lkp l t else none
 | [],t=>by simp[only,lkp]
 | (k,v) :: r,t=>by
  simp only[only];by_cases hk:K.contains k=true
  ·rw[Km hk];simp only[lkp,Zfx K r];by_cases aa:k=t
   ·subst aa;simp only[Kg,hk]
   ·simp only[Kl aa]
  ·rw[Kl hk,Zfx K r];simp only[lkp];by_cases aa:k=t
   ·subst aa;simp only[Kg];rw[Kl hk,Kl hk]
   ·simp only[Kl aa]
end
theorem ZrI {I:Nat→Prop} {Γ:Gh} {st:St} {a:Act} {w:World} (h:Sim nt F A I Γ (W7 st.nx) st.sl st.hp a w) (hc:ZbZ Γ0 Γ st.hp) (hm:ZjT Γ0 st.m) (K:List Nat) :
  ∃ Γ',Sim nt F A I Γ' (W7 (Wu K st).nx) (Wu K st).sl (Wu K st).hp a w∧ZbZ Γ0 Γ' (Wu K st).hp:=by
 have aa:=(WR st.hp (Xh st.hp) (Zlw (only K st.sl)++VI st.hp (List.range st.m)) (List.range st.m) Kad).1;obtain⟨h1,h2,h3⟩:=Zpz h aa (ZcN h hc hm);refine⟨J3 st.hp (QF st.hp (Xh st.hp) (Zlw (only K st.sl)++VI st.hp (List.range st.m)) (List.range st.m)) Γ,
  { nt:=h.nt,dfr:=h.dfr,slots:=fun t=>?_,objs:=h1,inj:=h2,bound:=h.bound,fresh:=h.fresh,own:=h.own,names:=fun id ab=>h3 id (Nat.le_of_not_lt ab),glob:=h.glob },Zly hc hm⟩
 show Rep _ w I (gs (ZfX _ (only K st.sl)) t) _;simp only[gs,ZcP,Zfx];have hs:=h.slots t;simp only[gs] at hs;by_cases hK:K.contains t=true
 ·rw[Km hK];cases hl:lkp st.sl t with
  | none=>exact trivial
  | some v=>rw[hl] at hs;exact ZjV _ hs
 ·rw[Kl hK];exact trivial
end
end Go.Abs
