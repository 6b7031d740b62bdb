/- Own text. -/
import Derived.Test.YtnachaiejoflhaaAbsCall4
import Derived.Orders
set_option linter.unusedVariables false
set_option linter.unusedSimpArgs false
namespace Go.Abs
open Go
section
variable {P:Program} {nt:Nat} {F A:Nat→Prop} {Γ0:Gh}
def WB (n:Nat):Nat→Prop:=fun id=>id<n
theorem ZfO (n:Nat):QD (WB n) n:=fun id h _ hu=>by simp only[WB] at hu;omega
theorem ZfP {n:Nat}:∀ id,WA (WB n) n id→WB (n+64) id:=fun id h=>by
 simp only[WA,WB] at h ⊢;omega
theorem Ztw {n m:Nat} (h:n≤m):∀ id,WB n id→WB m id:=fun id hu=>by simp only[WB] at hu ⊢;omega
def ZaE (Γ0 Γ:Gh) (_:Hp):Prop:=ZZ Γ0 Γ
def Zir (Γ0:Gh) (m:Nat):Prop:=(∀ k,m≤k→Γ0 k=none)∧∀ k,k<m→∃ r,Γ0 k=some r
def WG (nt:Nat) (F A:Nat→Prop) (Γ0:Gh) (I:Nat→Prop) (w:World) (st' : St) (a' : Act) (w' : World):Prop:=
 ∃ I' Γ',ZaE Γ0 Γ' st'.hp∧ZH I I' w w'∧(∀ b,I' b→I b∨F b)∧Fr F w w'∧Sim nt F A I' Γ' (WB st'.nx) st'.sl st'.hp a' w'
theorem WG.refl {I:Nat→Prop} {Γ:Gh} {st:St} {a:Act} {w:World} (h:Sim nt F A I Γ (WB st.nx) st.sl st.hp a w) (hc:ZaE Γ0 Γ st.hp):WG nt F A Γ0 I w st a w:=
 ⟨I,Γ,hc,ZH.refl I w,fun _ h=>.inl h,Fr.refl F w,h⟩
theorem WG.step {I I1:Nat→Prop} {w w1 w' : World} {aa : St} {a' : Act} (hk:ZH I I1 w w1) (hs:∀ b,I1 b→I b∨F b) (hf:Fr F w w1) (h:WG nt F A Γ0 I1 w1 aa a' w'):WG nt F A Γ0 I w aa a' w':=by
 obtain⟨I',Γ',h1,h2,h3,h4,h5⟩:=h;refine⟨I',Γ',h1,hk.trans h2,fun b hb=>?_,hf.trans h4,h5⟩;rcases h3 b hb with h6 | h6
 ·exact hs b h6
 ·exact .inr h6
theorem Y9.cpre {Γ Γ' : Gh} {hp hp' : Hp} (hg:ZZ Γ Γ') (hc:ZaE Γ0 Γ hp):ZaE Γ0 Γ' hp':=fun k r hk=>hg k r (hc k r hk)
theorem Znu {I:Nat→Prop} {Γ:Gh} {U:Nat→Prop} {sl:Sl} {hp:Hp} {a:Act} {w:World} (h:Sim nt F A I Γ U sl hp a w) {ops:Array Oper} {o:Oper} {g:Option (Nat×Bool)} (hg:Zh8 ops.toList o.guard=some g)
  {b:Bool} (hw:ZM sl g=some b):Region.wanted o (yielded ops a.tmps)=b:=by
 unfold Region.wanted;cases ho:o.guard with
 | none=>
  rw[ho] at hg;simp only[Zh8] at hg;cases hg;simp only[ZM] at hw;cases hw;rfl
 | some q=>
  rw[ho] at hg;simp only[Zh8] at hg;obtain⟨g',h1,hg⟩:=Za hg;obtain⟨t,h2,hg⟩:=Za hg;cases hg;simp only[ZM] at hw;have hr:=h.slots t;have ad : ops[q.1]?=some g':=by simpa using h1
  have hy:yielded ops a.tmps q.1=match a.tmps[t]? with
   | some (.bool b)=>some b
   | _=>none:=by unfold yielded;rw[ad];simp only[Option.bind_some,h2];rfl
  unfold Za7 at hw;split at hw
  ·rename_i b' aa;cases hw;rw[aa] at hr;have h3:=Zax hr;have h4:a.tmps[t]?=some (.bool b'):=by
    cases ht:a.tmps[t]? with
    | none=>simp[ht,undef] at h3
    | some v=>simp[ht] at h3;rw[h3]
   obtain⟨qj,qw⟩:=q;simp only at hy ⊢;rw[hy,h4];cases b' <;> cases qw<;>rfl
  ·rename_i aa;cases hw;rw[aa] at hr;obtain⟨us,h3,h4⟩:=hr;have h5:∀ b',a.tmps[t]?≠some (.bool b'):=by
    intro b' ab;simp[ab] at h3
   obtain⟨qj,qw⟩:=q;simp only at hy ⊢;rw[hy];cases ht:a.tmps[t]? with
   | none=>rfl
   | some v=>
    cases v<;>first | rfl | (exfalso;exact h5 _ ht)
  ·cases hw
theorem ZfQ {Γ:Gh} {w:World} {I:Nat→Prop}:Rep Γ w I (.tup []) undef:=⟨#[],rfl,trivial⟩
theorem Zd8 {ops:List Oper} {o:Oper} {co:CO} (h:Zgz P nt ops o=some co):Zh8 ops o.guard=some co.guard∧Yn (cOp P o.type o.op)=co.op∧Qu nt o.dst=true∧co.dst=o.dst:=by
 unfold Zgz at h;obtain⟨g,h1,h⟩:=Za h;split at h
 ·cases h;exact⟨h1,rfl,by assumption,rfl⟩
 ·cases h
theorem QK {base:Nat} {dst:Option Nat} {sl:Sl} {hp:Hp} {e:Option Zb} {r:Sl×Hp} (h:Xq base dst sl hp e=some r):∃ ce,e=some ce∧Qx base (base+64) ce.eff.adds=true∧r=ce.on dst sl hp:=by
 unfold Xq at h;obtain⟨ce,h1,h⟩:=Za h;split at h
 ·cases h;exact⟨ce,h1,by assumption,rfl⟩
 ·cases h
theorem Zr4 {ops:Array Oper} {i:Nat} {o:Oper} {aa:List Oper} (h:ops.toList.drop i=o :: aa):ops[i]?=some o∧ops.toList.drop (i+1)=aa∧i<ops.size:=by
 have h1:(ops.toList.drop i)[0]?=some o:=by rw[h];rfl
 rw[KK] at h1;have h2:ops[i]?=some o:=by simpa using h1
 refine⟨h2,?_,(Kz.1 h2).1⟩;rw[← LP,h];rfl
theorem Zpe {C:Orc} {M:Zj} (hC:Qb P C) {ops:Array Oper} {Q:Exit→Act→World→Prop} {nx m:Nat} :
  ∀ (os:List CO) (i:Nat) {sl:Sl} {hp:Hp} {r:Sl×Hp} {I:Nat→Prop} {Γ:Gh} {a:Act} {w:World},i≤ops.size→Qa (Zgz P nt ops.toList) (ops.toList.drop i)=some (ZfM os)→Zcj C M nx i os sl hp=some r →
   Sim nt F A I Γ (WB (nx+64*i)) sl hp a w→ZaE Γ0 Γ hp→(∀ a' w',WG nt F A Γ0 I w { sl:=r.1,hp:=r.2,nx:=nx+64*ops.size,m:=m } a' w'→Q .normal a' w') →
   wpOps P ops Q (List.range' i (ops.size-i)) a w:=by
 intro os
 induction os with
 | nil=>
  intro i sl hp r I Γ a w ag aa hv hS hc hQ;have hd:ops.toList.drop i=[]:=by
   cases hd:ops.toList.drop i with
   | nil=>rfl
   | cons o rest=>
    rw[hd] at aa;simp only[Qa] at aa;obtain⟨_,_,aa⟩:=Za aa;obtain⟨_,_,aa⟩:=Za aa;simp[ZfM] at aa
  have hi:ops.size≤i:=by
   have:=List.drop_eq_nil_iff.1 hd;simpa using this
  have ak:i=ops.size:=by omega
  subst ak;rw[show ops.size-ops.size=0 by omega];simp only[Zcj] at hv;cases hv;simp only[List.range',wpOps];exact hQ a w (WG.refl (st := { sl:=sl,hp:=hp,nx:=nx+64*ops.size,m:=m }) hS hc)
 | cons co os ih=>
  intro i sl hp r I Γ a w ag aa hv hS hc hQ;cases hd:ops.toList.drop i with
  | nil=>rw[hd] at aa;simp[Qa,ZfM] at aa
  | cons o rest=>
   obtain⟨ho,ad,an⟩:=Zr4 hd;rw[hd] at aa;simp only[Qa] at aa;obtain⟨ao,h1,aa⟩:=Za aa;obtain⟨ap,h2,aa⟩:=Za aa;simp only[ZfM,Option.some.injEq,List.cons.injEq] at aa;obtain⟨rfl,rfl⟩:=aa;obtain⟨hg,ai,ae,aj⟩:=Zd8 h1;dsimp only at hg ai aj;rw[show ops.size-i=(ops.size-(i+1))+1 by omega,List.range'_succ];simp only[Zcj] at hv;obtain⟨b,hw,hv⟩:=Za hv;have af:=Znu hS hg hw;simp only[wpOps,ho,af];rw[aj] at hv;cases b with
   | true=>
    simp only[Kj] at hv ⊢;obtain⟨q,hq,hv⟩:=Za hv;obtain⟨ce,al,am,rfl⟩:=QK hq;refine .inl (Zs6 hC hS ai (ZfO _) ae am al _ _ fun u w' hp'=>?_);obtain⟨I1,Γ1,b1,b2,b3,b4,b5⟩:=hp';refine ih (i+1) (by omega) (by rw[ad];exact h2) hv (by rw[show nx+64*(i+1)=nx+64*i+64 by omega];exact b5.more ZfP) (Y9.cpre b1 hc) fun a' ah ab=>hQ a' ah (ab.step b2 b3 b4)
   | false=>
    simp only[Ka,Ki] at hv ⊢;obtain⟨I1,Γ1,b1,b2,b3,b4,b5⟩:=hS.pure (U':=WB (nx+64*(i+1))) (v:=.tup []) (u:=undef) (dst:=o.dst) (Ztw (by omega)) ZfQ ae;exact ih (i+1) (by omega) (by rw[ad];exact h2) hv b5 (Y9.cpre b1 hc) fun a' ah ab=>hQ a' ah (ab.step b2 b3 b4)
theorem Ze1 {hp:Hp} {ids:List Nat}:∀ {l:List Nat} {i:Nat},i∈l→i∉Zck hp ids l→J7 hp ids i=true
 | [],i,h,_=>by simp at h
 | x :: r,i,h,hn=>by
  simp only[Zck] at hn;cases hl:J7 hp ids x with
  | true=>
   rw[hl] at hn;simp only[Kj] at hn;rcases Kf.1 h with rfl | h
   ·exact hl
   ·exact Ze1 h hn
  | false=>
   rw[hl] at hn;simp only[Ka,Ki,Kf,not_or] at hn;rcases Kf.1 h with rfl | h
   ·exact absurd rfl hn.1
   ·exact Ze1 h hn.2
def Jh (_:Hp) (ids:List Nat) (Γ:Gh):Gh:=fun k=>match ids[k]? with
 | some id=>Γ id
 | none=>none
theorem ZkQ {hp:Hp} {ids:List Nat} {Γ:Gh} {id:Nat} (h:J7 hp ids id=true):Jh hp ids Γ (Yl ids id)=Γ id:=by
 simp only[J7,Kb,KC,Ko] at h;simp only[Jh,(Zeu h.1).2]
section
variable {I:Nat→Prop} {Γ:Gh} {U:Nat→Prop} {sl:Sl} {hp:Hp} {a:Act} {w:World}
theorem Zis (ids:List Nat) {x:AV} {v:Value} (h:Rep Γ w I x v):Rep (Jh hp ids Γ) w I (ZaD hp ids x) v:=by
 refine Zg4 (fun id aa r hr=>?_) (ZH.refl I w) (ZmD (bad:=Zck hp ids (Zo x)) h);obtain⟨h1,h2⟩:=Zkl _ _ id aa;rw[ZkQ (Ze1 h1 h2)];exact hr
theorem Zr5 {ids:List Nat} {k id:Nat} (hk:ids[k]?=some id) {o:Zk} (hl:lkp hp id=some o) (ho:Xz Γ w I F A id o):Xz (Jh hp ids Γ) w I F A k (Zcl hp ids o):=by
 have hG:Jh hp ids Γ k=Γ id:=by simp[Jh,hk]
 cases o with
 | box cs=>
  obtain⟨b,cur,e,h1,h2,h3,h4,h5,ab⟩:=ho;refine⟨b,cur,e,by rw[hG,h1],h2,h3,h4,?_,(ab.map (VF _)).map (UQ _)⟩;have h6:Zp (QV Γ w I) (cs.map (ZG (Zck hp ids (VX (.box cs))))) cur.toList:=h5.map_left fun _ _ h=>Zfo h;refine Zaq (fun ae aa r hr=>?_) (ZH.refl I w) h6;obtain⟨y,hy,aa⟩:=Kk.1 aa;obtain⟨x,hx,rfl⟩:=K4.1 hy;obtain⟨h7,h8⟩:=ZdO _ x ae aa;rw[ZkQ (Ze1 (Kk.2 ⟨x,hx,h7⟩) h8)];exact hr
 | row sz xs ex fz=>
  obtain⟨ad,n,c,h1,h2⟩:=ho;exact⟨ad,n,c,by rw[hG,h1],h2⟩
 | gone=>
  obtain⟨r,h1⟩:=ho;exact⟨r,by rw[hG,h1]⟩
 | tree sz ns xs lk=>
  obtain⟨ad,n,c,h1,h2,h3⟩:=ho;refine⟨ad,n,c,by rw[hG,h1],?_,Xj.lose (Xj.kill (Γ':=Γ) h3 (fun _ _ _ h=>h) fun _ _=>rfl)⟩;rw[VQ,VR];exact h2
theorem Zpf (h:Sim nt F A I Γ U sl hp a w) {ids:List Nat} (af:ids.Nodup) (ae:∀ id∈ids,∃ r,Γ id=some r) :
  WK (Jh hp ids Γ) w I F A (YF 0 ((J1 hp ids).map (Zcl hp ids))) ∧
  (∀ i j o o' b,lkp (YF 0 ((J1 hp ids).map (Zcl hp ids))) i=some o→lkp (YF 0 ((J1 hp ids).map (Zcl hp ids))) j=some o'→Blk (Jh hp ids Γ) w i o b→Blk (Jh hp ids Γ) w j o' b→i=j) ∧
  (∀ id,ids.length≤id→Jh hp ids Γ id=none):=by
 have get:∀ k o,lkp (YF 0 ((J1 hp ids).map (Zcl hp ids))) k=some o→∃ id,ids[k]?=some id∧o=Zcl hp ids (Znd (lkp hp id)):=by
  intro k o hk;rw[VZ] at hk;simp only[Nat.zero_le,Kj,Nat.sub_zero,Lf,Zhk,Option.map_map] at hk;cases hi:ids[k]? with
  | none=>rw[hi] at hk;cases hk
  | some id=>
   rw[hi] at hk;simp only[KM,Option.some.injEq,Function.comp_apply] at hk;exact⟨id,rfl,hk.symm⟩
 refine⟨fun k o hk=>?_,fun i j o o' b hi hj aa ab=>?_,fun id ag=>?_⟩
 ·obtain⟨id,h1,rfl⟩:=get k o hk;cases hl:lkp hp id with
  | none=>
   obtain⟨r,hr⟩:=ae id (Ke h1);exact⟨r,by simp[Jh,h1,hr]⟩
  | some o0=>exact Zr5 h1 hl (h.objs id o0 hl)
 ·obtain⟨id,h1,rfl⟩:=get i o hi;obtain⟨ad,h2,rfl⟩:=get j o' hj;have bk:∀ (k id:Nat) (o0:Zk),Jh hp ids Γ k=Γ id→Blk (Jh hp ids Γ) w k (Zcl hp ids o0) b→Blk Γ w id o0 b:=by
   intro k id o0 e hb;rcases hb with hb | hb | hb
   ·unfold Zcl at hb;rw[ZfH,Zd3,e] at hb;exact .inl hb
   ·cases o0 with
    | box cs=>exact False.elim hb
    | row sz xs ex fz=>exact False.elim hb
    | gone=>exact False.elim hb
    | tree sz ns xs lk=>
     obtain⟨g,p,h5,h6⟩:=hb;rw[VQ,VR] at h6;exact .inr (.inl ⟨g,p,e ▸ h5,h6⟩)
   ·cases o0 with
    | box cs=>exact .inr (.inr ((Buf.unmap (VF _) (Buf.unmap (UQ _) hb)).ren e.symm))
    | row sz xs ex fz=>exact False.elim hb
    | gone=>exact False.elim hb
    | tree sz ns xs lk=>exact False.elim hb
  cases hl:lkp hp id with
  | none=>rw[hl] at aa;exact aa.isGone.elim
  | some o0=>
   cases hl' : lkp hp ad with
   | none=>rw[hl'] at ab;exact ab.isGone.elim
   | some o1=>
    have e1:Jh hp ids Γ i=Γ id:=by simp[Jh,h1]
    have e2:Jh hp ids Γ j=Γ ad:=by simp[Jh,h2]
    rw[hl] at aa;rw[hl'] at ab;have:=h.inj id ad o0 o1 b hl hl' (bk i id o0 e1 aa) (bk j ad o1 e2 ab);subst this;exact Zkm af h1 h2
 ·simp[Jh,KF ag]
theorem UG (hp:Hp):∀ (n:Nat) (todo aa:List Nat),∃ t,Qy hp n todo aa=aa++t
 | 0,todo,aa=>⟨[],by simp[Qy]⟩
 | n+1,[],aa=>⟨[],by simp[Qy]⟩
 | n+1,id :: todo,aa=>by
  simp only[Qy];split
  ·exact UG hp n todo aa
  ·cases lkp hp id with
   | none=>simp only[V7];exact UG hp n todo aa
   | some o=>
    simp only[V7];obtain⟨t,ht⟩:=UG hp n (todo++VX o) (aa++[id]);exact⟨id :: t,by rw[ht];simp⟩
theorem Znv {hp:Hp} {n m:Nat} {todo:List Nat} {k:Nat} (hk:k<m):(Qy hp n todo (List.range m))[k]?=some k:=by
 obtain⟨t,ht⟩:=UG hp n todo (List.range m);rw[ht,KE (by simpa using hk)];simp[hk]
theorem ZkR {n m:Nat} {todo:List Nat} {hp' : Hp} (hc:ZaE Γ0 Γ hp) (hm:Zir Γ0 m) :
  ZaE Γ0 (Jh hp (Qy hp n todo (List.range m)) Γ) hp':=by
 intro k r hk;have aa:k<m:=by
  rcases KG k m with h | h
  ·exact h
  ·rw[hm.1 k h] at hk;cases hk
 simp only[Jh,Znv (hp:=hp) (n:=n) (todo:=todo) aa];exact hc k r hk
theorem Zcp (h:Sim nt F A I Γ U sl hp a w) {n m:Nat} {todo:List Nat} (hc:ZaE Γ0 Γ hp) (hm:Zir Γ0 m):∀ id∈Qy hp n todo (List.range m),∃ r,Γ id=some r:=by
 intro id aa;rcases (VY hp n todo (List.range m) LI).2.2 id aa with h1 | ⟨o,ho⟩
 ·obtain⟨r,hr⟩:=hm.2 id (by simpa using h1);exact⟨r,hc id r hr⟩
 ·have:=h.objs id o ho;cases o with
  | box cs=>obtain⟨b,cur,e,h1,_⟩:=this;exact⟨_,h1⟩
  | row sz xs ex fz=>obtain⟨ad,n,c,h1,_⟩:=this;exact⟨_,h1⟩
  | tree sz ns xs lk=>obtain⟨ad,n,c,h1,_⟩:=this;exact⟨_,h1⟩
  | gone=>exact this
theorem Ze2 {α:Type} (K:List Nat):∀ (l:List (Nat×α)) (t:Nat),lkp (only K l) t=if K.contains t then lkp l t else none
 | [],t=>by simp[only,lkp]
 | (k,v) :: r,t=>by
  simp only[only];by_cases hk:K.contains k=true
  ·rw[Kt hk];simp only[lkp,Ze2 K r];by_cases aa:k=t
   ·subst aa;simp only[Kj,hk]
   ·simp only[Kn aa]
  ·rw[Kn hk,Ze2 K r];simp only[lkp];by_cases aa:k=t
   ·subst aa;simp only[Kj];rw[Kn hk,Kn hk]
   ·simp only[Kn aa]
end
theorem Zq5 {I:Nat→Prop} {Γ:Gh} {st:St} {a:Act} {w:World} (h:Sim nt F A I Γ (WB st.nx) st.sl st.hp a w) (hc:ZaE Γ0 Γ st.hp) (hm:Zir Γ0 st.m) (K:List Nat) :
  ∃ Γ',Sim nt F A I Γ' (WB (VM K st).nx) (VM K st).sl (VM K st).hp a w∧ZaE Γ0 Γ' (VM K st).hp:=by
 have aa:=(VY st.hp (QZ st.hp) (ZkO (only K st.sl)++YV st.hp (List.range st.m)) (List.range st.m) LI).1;obtain⟨h1,h2,h3⟩:=Zpf h aa (Zcp h hc hm);refine⟨Jh st.hp (Qy st.hp (QZ st.hp) (ZkO (only K st.sl)++YV st.hp (List.range st.m)) (List.range st.m)) Γ,
  { nt:=h.nt,dfr:=h.dfr,slots:=fun t=>?_,objs:=h1,inj:=h2,bound:=h.bound,fresh:=h.fresh,own:=h.own,names:=fun id ab=>h3 id (Nat.le_of_not_lt ab),glob:=h.glob },ZkR hc hm⟩
 show Rep _ w I (gs (Zfl _ (only K st.sl)) t) _;simp only[gs,Zcr,Ze2];have hs:=h.slots t;simp only[gs] at hs;by_cases hK:K.contains t=true
 ·rw[Kt hK];cases hl:lkp st.sl t with
  | none=>exact trivial
  | some v=>rw[hl] at hs;exact Zis _ hs
 ·rw[Kn hK];exact trivial
end
end Go.Abs
