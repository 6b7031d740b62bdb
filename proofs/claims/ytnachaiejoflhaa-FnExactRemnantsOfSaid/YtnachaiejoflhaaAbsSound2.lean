/- Own text. -/
import Derived.Test.YtnachaiejoflhaaAbsCall4
import Derived.Orders
set_option linter.unusedVariables false
set_option linter.unusedSimpArgs false
namespace Go.Abs
open Go
section
variable {P:Program} {nt:Nat} {F A:Nat→Prop} {Γ0:Gh}
def Wg (n:Nat):Nat→Prop:=fun id=>id<n
theorem Ze4 (n:Nat):QD (Wg n) n:=fun id h _ hu=>by simp only[Wg] at hu;omega
theorem Ze5 {n:Nat}:∀ id,Wf (Wg n) n id→Wg (n+64) id:=fun id h=>by
 simp only[Wf,Wg] at h ⊢;omega
theorem Zsh {n m:Nat} (h:n≤m):∀ id,Wg n id→Wg m id:=fun id hu=>by simp only[Wg] at hu ⊢;omega
def J7 (Γ0 Γ:Gh) (_:Hp):Prop:=ZX Γ0 Γ
def ZhF (Γ0:Gh) (m:Nat):Prop:=(∀ k,m≤k→Γ0 k=none)∧∀ k,k<m→∃ r,Γ0 k=some r
def Wk (nt:Nat) (F A:Nat→Prop) (Γ0:Gh) (I:Nat→Prop) (w:World) (st' : St) (a' : Act) (w' : World):Prop:=
 ∃ I' Γ',J7 Γ0 Γ' st'.hp∧ZE I I' w w'∧(∀ b,I' b→I b∨F b)∧Fr F w w'∧Sim nt F A I' Γ' (Wg st'.nx) st'.sl st'.hp a' w'
theorem Wk.refl {I:Nat→Prop} {Γ:Gh} {st:St} {a:Act} {w:World} (h:Sim nt F A I Γ (Wg st.nx) st.sl st.hp a w) (hc:J7 Γ0 Γ st.hp):Wk nt F A Γ0 I w st a w:=
 ⟨I,Γ,hc,ZE.refl I w,fun _ h=>.inl h,Fr.refl F w,h⟩
theorem Wk.step {I I1:Nat→Prop} {w w1 w' : World} {aa : St} {a' : Act} (hk:ZE I I1 w w1) (hs:∀ b,I1 b→I b∨F b) (hf:Fr F w w1) (h:Wk nt F A Γ0 I1 w1 aa a' w'):Wk nt F A Γ0 I w aa a' w':=by
 obtain⟨I',Γ',h1,h2,h3,h4,h5⟩:=h;refine⟨I',Γ',h1,hk.trans h2,fun b hb=>?_,hf.trans h4,h5⟩;rcases h3 b hb with h6 | h6
 ·exact hs b h6
 ·exact .inr h6
theorem Y1.cpre {Γ Γ' : Gh} {hp hp' : Hp} (hg:ZX Γ Γ') (hc:J7 Γ0 Γ hp):J7 Γ0 Γ' hp':=fun k r hk=>hg k r (hc k r hk)
theorem Zme {I:Nat→Prop} {Γ:Gh} {U:Nat→Prop} {sl:Sl} {hp:Hp} {a:Act} {w:World} (h:Sim nt F A I Γ U sl hp a w) {ops:Array Oper} {o:Oper} {g:Option (Nat×Bool)} (hg:Zho ops.toList o.guard=some g)
  {b:Bool} (hw:ZL sl g=some b):Region.wanted o (yielded ops a.tmps)=b:=by
 unfold Region.wanted;cases ho:o.guard with
 | none=>
  rw[ho] at hg;simp only[Zho] at hg;cases hg;simp only[ZL] at hw;cases hw;rfl
 | some q=>
  rw[ho] at hg;simp only[Zho] at hg;obtain⟨g',h1,hg⟩:=Za hg;obtain⟨t,h2,hg⟩:=Za hg;cases hg;simp only[ZL] at hw;have hr:=h.slots t;have ad : ops[q.1]?=some g':=by simpa using h1
  have hy:yielded ops a.tmps q.1=match a.tmps[t]? with
   | some (.bool b)=>some b
   | _=>none:=by unfold yielded;rw[ad];simp only[Option.bind_some,h2];rfl
  unfold ZaE at hw;split at hw
  ·rename_i b' aa;cases hw;rw[aa] at hr;have h3:=JZ hr;have h4:a.tmps[t]?=some (.bool b'):=by
    cases ht:a.tmps[t]? with
    | none=>simp[ht,undef] at h3
    | some v=>simp[ht] at h3;rw[h3]
   obtain⟨qj,qw⟩:=q;simp only at hy ⊢;rw[hy,h4];cases b' <;> cases qw<;>rfl
  ·rename_i aa;cases hw;rw[aa] at hr;obtain⟨us,h3,h4⟩:=hr;have h5:∀ b',a.tmps[t]?≠some (.bool b'):=by
    intro b' ab;simp[ab] at h3
   obtain⟨qj,qw⟩:=q;simp only at hy ⊢;rw[hy];cases ht:a.tmps[t]? with
   | none=>rfl
   | some v=>
    cases v<;>first | rfl | (exfalso;exact h5 _ ht)
  ·cases hw
theorem Ze6 {Γ:Gh} {w:World} {I:Nat→Prop}:Rep Γ w I (.tup []) undef:=⟨#[],rfl,trivial⟩
theorem Zdp {ops:List Oper} {o:Oper} {co:CO} (h:ZfO P nt ops o=some co):Zho ops o.guard=some co.guard∧Yg (cOp P o.type o.op)=co.op∧Qv nt o.dst=true∧co.dst=o.dst:=by
 unfold ZfO at h;obtain⟨g,h1,h⟩:=Za h;split at h
 ·cases h;exact⟨h1,rfl,by assumption,rfl⟩
 ·cases h
theorem QL {base:Nat} {dst:Option Nat} {sl:Sl} {hp:Hp} {e:Option Zb} {r:Sl×Hp} (h:Xm base dst sl hp e=some r):∃ ce,e=some ce∧Qy base (base+64) ce.eff.adds=true∧r=ce.on dst sl hp:=by
 unfold Xm at h;obtain⟨ce,h1,h⟩:=Za h;split at h
 ·cases h;exact⟨ce,h1,by assumption,rfl⟩
 ·cases h
theorem ZqJ {ops:Array Oper} {i:Nat} {o:Oper} {aa:List Oper} (h:ops.toList.drop i=o :: aa):ops[i]?=some o∧ops.toList.drop (i+1)=aa∧i<ops.size:=by
 have h1:(ops.toList.drop i)[0]?=some o:=by rw[h];rfl
 rw[KK] at h1;have h2:ops[i]?=some o:=by simpa using h1
 refine⟨h2,?_,(Kz.1 h2).1⟩;rw[← LJ,h];rfl
theorem ZnW {C:Orc} {M:Zh} (hC:Qe P C) {ops:Array Oper} {Q:Exit→Act→World→Prop} {nx m:Nat} :
  ∀ (os:List CO) (i:Nat) {sl:Sl} {hp:Hp} {r:Sl×Hp} {I:Nat→Prop} {Γ:Gh} {a:Act} {w:World},i≤ops.size→Qd (ZfO P nt ops.toList) (ops.toList.drop i)=some (Ze2 os)→ZbO C M nx i os sl hp=some r →
   Sim nt F A I Γ (Wg (nx+64*i)) sl hp a w→J7 Γ0 Γ hp→(∀ a' w',Wk nt F A Γ0 I w { sl:=r.1,hp:=r.2,nx:=nx+64*ops.size,m:=m } a' w'→Q .normal a' w') →
   wpOps P ops Q (List.range' i (ops.size-i)) a w:=by
 intro os
 induction os with
 | nil=>
  intro i sl hp r I Γ a w ag aa hv hS hc hQ;have hd:ops.toList.drop i=[]:=by
   cases hd:ops.toList.drop i with
   | nil=>rfl
   | cons o rest=>
    rw[hd] at aa;simp only[Qd] at aa;obtain⟨_,_,aa⟩:=Za aa;obtain⟨_,_,aa⟩:=Za aa;simp[Ze2] at aa
  have hi:ops.size≤i:=by
   have:=List.drop_eq_nil_iff.1 hd;simpa using this
  have ak:i=ops.size:=by omega
  subst ak;rw[show ops.size-ops.size=0 by omega];simp only[ZbO] at hv;cases hv;simp only[List.range',wpOps];exact hQ a w (Wk.refl (st := { sl:=sl,hp:=hp,nx:=nx+64*ops.size,m:=m }) hS hc)
 | cons co os ih=>
  intro i sl hp r I Γ a w ag aa hv hS hc hQ;cases hd:ops.toList.drop i with
  | nil=>rw[hd] at aa;simp[Qd,Ze2] at aa
  | cons o rest=>
   obtain⟨ho,ad,an⟩:=ZqJ hd;rw[hd] at aa;simp only[Qd] at aa;obtain⟨ao,h1,aa⟩:=Za aa;obtain⟨ap,h2,aa⟩:=Za aa;simp only[Ze2,Option.some.injEq,List.cons.injEq] at aa;obtain⟨rfl,rfl⟩:=aa;obtain⟨hg,ai,ae,aj⟩:=Zdp h1;dsimp only at hg ai aj;rw[show ops.size-i=(ops.size-(i+1))+1 by omega,List.range'_succ];simp only[ZbO] at hv;obtain⟨b,hw,hv⟩:=Za hv;have af:=Zme hS hg hw;simp only[wpOps,ho,af];rw[aj] at hv;cases b with
   | true=>
    simp only[Kj] at hv ⊢;obtain⟨q,hq,hv⟩:=Za hv;obtain⟨ce,al,am,rfl⟩:=QL hq;refine .inl (ZrR hC hS ai (Ze4 _) ae am al _ _ fun u w' hp'=>?_);obtain⟨I1,Γ1,b1,b2,b3,b4,b5⟩:=hp';refine ih (i+1) (by omega) (by rw[ad];exact h2) hv (by rw[show nx+64*(i+1)=nx+64*i+64 by omega];exact b5.more Ze5) (Y1.cpre b1 hc) fun a' ah ab=>hQ a' ah (ab.step b2 b3 b4)
   | false=>
    simp only[Ka,Ki] at hv ⊢;obtain⟨I1,Γ1,b1,b2,b3,b4,b5⟩:=hS.pure (U':=Wg (nx+64*(i+1))) (v:=.tup []) (u:=undef) (dst:=o.dst) (Zsh (by omega)) Ze6 ae;exact ih (i+1) (by omega) (by rw[ad];exact h2) hv b5 (Y1.cpre b1 hc) fun a' ah ab=>hQ a' ah (ab.step b2 b3 b4)
theorem Zei {hp:Hp} {ids:List Nat}:∀ {l:List Nat} {i:Nat},i∈l→i∉ZbP hp ids l→JF hp ids i=true
 | [],i,h,_=>by simp at h
 | x :: r,i,h,hn=>by
  simp only[ZbP] at hn;cases hl:JF hp ids x with
  | true=>
   rw[hl] at hn;simp only[Kj] at hn;rcases Ke.1 h with rfl | h
   ·exact hl
   ·exact Zei h hn
  | false=>
   rw[hl] at hn;simp only[Ka,Ki,Ke,not_or] at hn;rcases Ke.1 h with rfl | h
   ·exact absurd rfl hn.1
   ·exact Zei h hn.2
def UR (_:Hp) (ids:List Nat) (Γ:Gh):Gh:=fun k=>match ids[k]? with
 | some id=>Γ id
 | none=>none
theorem ZjL {hp:Hp} {ids:List Nat} {Γ:Gh} {id:Nat} (h:JF hp ids id=true):UR hp ids Γ (Ye ids id)=Γ id:=by
 simp only[JF,Kb,KC,Kn] at h;simp only[UR,(ZdM h.1).2]
section
variable {I:Nat→Prop} {Γ:Gh} {U:Nat→Prop} {sl:Sl} {hp:Hp} {a:Act} {w:World}
theorem ZhG (ids:List Nat) {x:AV} {v:Value} (h:Rep Γ w I x v):Rep (UR hp ids Γ) w I (J6 hp ids x) v:=by
 refine Zgl (fun id aa r hr=>?_) (ZE.refl I w) (Zlp (bad:=ZbP hp ids (Zn x)) h);obtain⟨h1,h2⟩:=Zjg _ _ id aa;rw[ZjL (Zei h1 h2)];exact hr
theorem ZqK {ids:List Nat} {k id:Nat} (hk:ids[k]?=some id) {o:Zj} (hl:lkp hp id=some o) (ho:Xr Γ w I F A id o):Xr (UR hp ids Γ) w I F A k (ZbQ hp ids o):=by
 have hG:UR hp ids Γ k=Γ id:=by simp[UR,hk]
 cases o with
 | box cs=>
  obtain⟨b,cur,e,h1,h2,h3,h4,h5,ab⟩:=ho;refine⟨b,cur,e,by rw[hG,h1],h2,h3,h4,?_,(ab.map (Vp _)).map (Us _)⟩;have h6:Zp (QV Γ w I) (cs.map (ZD (ZbP hp ids (VG (.box cs))))) cur.toList:=h5.map_left fun _ _ h=>ZeD h;refine JS (fun ae aa r hr=>?_) (ZE.refl I w) h6;obtain⟨y,hy,aa⟩:=Kk.1 aa;obtain⟨x,hx,rfl⟩:=KX.1 hy;obtain⟨h7,h8⟩:=Zc4 _ x ae aa;rw[ZjL (Zei (Kk.2 ⟨x,hx,h7⟩) h8)];exact hr
 | row sz xs ex fz=>
  obtain⟨ad,n,c,h1,h2⟩:=ho;exact⟨ad,n,c,by rw[hG,h1],h2⟩
 | gone=>
  obtain⟨r,h1⟩:=ho;exact⟨r,by rw[hG,h1]⟩
 | tree sz ns xs lk=>
  obtain⟨ad,n,c,h1,h2,h3⟩:=ho;refine⟨ad,n,c,by rw[hG,h1],?_,Xf.lose (Xf.kill (Γ':=Γ) h3 (fun _ _ _ h=>h) fun _ _=>rfl)⟩;rw[Vy,Vz];exact h2
theorem ZnX (h:Sim nt F A I Γ U sl hp a w) {ids:List Nat} (af:ids.Nodup) (ae:∀ id∈ids,∃ r,Γ id=some r) :
  Wo (UR hp ids Γ) w I F A (Yw 0 ((JA hp ids).map (ZbQ hp ids))) ∧
  (∀ i j o o' b,lkp (Yw 0 ((JA hp ids).map (ZbQ hp ids))) i=some o→lkp (Yw 0 ((JA hp ids).map (ZbQ hp ids))) j=some o'→Blk (UR hp ids Γ) w i o b→Blk (UR hp ids Γ) w j o' b→i=j) ∧
  (∀ id,ids.length≤id→UR hp ids Γ id=none):=by
 have get:∀ k o,lkp (Yw 0 ((JA hp ids).map (ZbQ hp ids))) k=some o→∃ id,ids[k]?=some id∧o=ZbQ hp ids (ZlX (lkp hp id)):=by
  intro k o hk;rw[VI] at hk;simp only[Nat.zero_le,Kj,Nat.sub_zero,Ld,ZgB,Option.map_map] at hk;cases hi:ids[k]? with
  | none=>rw[hi] at hk;cases hk
  | some id=>
   rw[hi] at hk;simp only[KM,Option.some.injEq,Function.comp_apply] at hk;exact⟨id,rfl,hk.symm⟩
 refine⟨fun k o hk=>?_,fun i j o o' b hi hj aa ab=>?_,fun id ag=>?_⟩
 ·obtain⟨id,h1,rfl⟩:=get k o hk;cases hl:lkp hp id with
  | none=>
   obtain⟨r,hr⟩:=ae id (Kg h1);exact⟨r,by simp[UR,h1,hr]⟩
  | some o0=>exact ZqK h1 hl (h.objs id o0 hl)
 ·obtain⟨id,h1,rfl⟩:=get i o hi;obtain⟨ad,h2,rfl⟩:=get j o' hj;have bk:∀ (k id:Nat) (o0:Zj),UR hp ids Γ k=Γ id→Blk (UR hp ids Γ) w k (ZbQ hp ids o0) b→Blk Γ w id o0 b:=by
   intro k id o0 e hb;rcases hb with hb | hb | hb
   ·unfold ZbQ at hb;rw[ZeX,Zdk,e] at hb;exact .inl hb
   ·cases o0 with
    | box cs=>exact False.elim hb
    | row sz xs ex fz=>exact False.elim hb
    | gone=>exact False.elim hb
    | tree sz ns xs lk=>
     obtain⟨g,p,h5,h6⟩:=hb;rw[Vy,Vz] at h6;exact .inr (.inl ⟨g,p,e ▸ h5,h6⟩)
   ·cases o0 with
    | box cs=>exact .inr (.inr ((Buf.unmap (Vp _) (Buf.unmap (Us _) hb)).ren e.symm))
    | row sz xs ex fz=>exact False.elim hb
    | gone=>exact False.elim hb
    | tree sz ns xs lk=>exact False.elim hb
  cases hl:lkp hp id with
  | none=>rw[hl] at aa;exact aa.isGone.elim
  | some o0=>
   cases hl' : lkp hp ad with
   | none=>rw[hl'] at ab;exact ab.isGone.elim
   | some o1=>
    have e1:UR hp ids Γ i=Γ id:=by simp[UR,h1]
    have e2:UR hp ids Γ j=Γ ad:=by simp[UR,h2]
    rw[hl] at aa;rw[hl'] at ab;have:=h.inj id ad o0 o1 b hl hl' (bk i id o0 e1 aa) (bk j ad o1 e2 ab);subst this;exact Zjh af h1 h2
 ·simp[UR,KE ag]
theorem Ui (hp:Hp):∀ (n:Nat) (todo aa:List Nat),∃ t,Qz hp n todo aa=aa++t
 | 0,todo,aa=>⟨[],by simp[Qz]⟩
 | n+1,[],aa=>⟨[],by simp[Qz]⟩
 | n+1,id :: todo,aa=>by
  simp only[Qz];split
  ·exact Ui hp n todo aa
  ·cases lkp hp id with
   | none=>simp only[VQ];exact Ui hp n todo aa
   | some o=>
    simp only[VQ];obtain⟨t,ht⟩:=Ui hp n (todo++VG o) (aa++[id]);exact⟨id :: t,by rw[ht];simp⟩
theorem Zmf {hp:Hp} {n m:Nat} {todo:List Nat} {k:Nat} (hk:k<m):(Qz hp n todo (List.range m))[k]?=some k:=by
 obtain⟨t,ht⟩:=Ui hp n todo (List.range m);rw[ht,KD (by simpa using hk)];simp[hk]
theorem ZjM {n m:Nat} {todo:List Nat} {hp' : Hp} (hc:J7 Γ0 Γ hp) (hm:ZhF Γ0 m) :
  J7 Γ0 (UR hp (Qz hp n todo (List.range m)) Γ) hp':=by
 intro k r hk;have aa:k<m:=by
  rcases KH k m with h | h
  ·exact h
  ·rw[hm.1 k h] at hk;cases hk
 simp only[UR,Zmf (hp:=hp) (n:=n) (todo:=todo) aa];exact hc k r hk
theorem ZbU (h:Sim nt F A I Γ U sl hp a w) {n m:Nat} {todo:List Nat} (hc:J7 Γ0 Γ hp) (hm:ZhF Γ0 m):∀ id∈Qz hp n todo (List.range m),∃ r,Γ id=some r:=by
 intro id aa;rcases (VH hp n todo (List.range m) LC).2.2 id aa with h1 | ⟨o,ho⟩
 ·obtain⟨r,hr⟩:=hm.2 id (by simpa using h1);exact⟨r,hc id r hr⟩
 ·have:=h.objs id o ho;cases o with
  | box cs=>obtain⟨b,cur,e,h1,_⟩:=this;exact⟨_,h1⟩
  | row sz xs ex fz=>obtain⟨ad,n,c,h1,_⟩:=this;exact⟨_,h1⟩
  | tree sz ns xs lk=>obtain⟨ad,n,c,h1,_⟩:=this;exact⟨_,h1⟩
  | gone=>exact this
theorem Zej {α:Type} (K:List Nat):∀ (l:List (Nat×α)) (t:Nat),lkp (only K l) t=if K.contains t then lkp l t else none
 | [],t=>by simp[only,lkp]
 | (k,v) :: r,t=>by
  simp only[only];by_cases hk:K.contains k=true
  ·rw[Kt hk];simp only[lkp,Zej K r];by_cases aa:k=t
   ·subst aa;simp only[Kj,hk]
   ·simp only[Ko aa]
  ·rw[Ko hk,Zej K r];simp only[lkp];by_cases aa:k=t
   ·subst aa;simp only[Kj];rw[Ko hk,Ko hk]
   ·simp only[Ko aa]
end
theorem ZpK {I:Nat→Prop} {Γ:Gh} {st:St} {a:Act} {w:World} (h:Sim nt F A I Γ (Wg st.nx) st.sl st.hp a w) (hc:J7 Γ0 Γ st.hp) (hm:ZhF Γ0 st.m) (K:List Nat) :
  ∃ Γ',Sim nt F A I Γ' (Wg (Vv K st).nx) (Vv K st).sl (Vv K st).hp a w∧J7 Γ0 Γ' (Vv K st).hp:=by
 have aa:=(VH st.hp (QZ st.hp) (ZjJ (only K st.sl)++YM st.hp (List.range st.m)) (List.range st.m) LC).1;obtain⟨h1,h2,h3⟩:=ZnX h aa (ZbU h hc hm);refine⟨UR st.hp (Qz st.hp (QZ st.hp) (ZjJ (only K st.sl)++YM st.hp (List.range st.m)) (List.range st.m)) Γ,
  { nt:=h.nt,dfr:=h.dfr,slots:=fun t=>?_,objs:=h1,inj:=h2,bound:=h.bound,fresh:=h.fresh,own:=h.own,names:=fun id ab=>h3 id (Nat.le_of_not_lt ab),glob:=h.glob },ZjM hc hm⟩
 show Rep _ w I (gs (ZeA _ (only K st.sl)) t) _;simp only[gs,ZbW,Zej];have hs:=h.slots t;simp only[gs] at hs;by_cases hK:K.contains t=true
 ·rw[Kt hK];cases hl:lkp st.sl t with
  | none=>exact trivial
  | some v=>rw[hl] at hs;exact ZhG _ hs
 ·rw[Ko hK];exact trivial
end
end Go.Abs
