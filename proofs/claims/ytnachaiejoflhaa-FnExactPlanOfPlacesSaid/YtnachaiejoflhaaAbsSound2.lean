/- Own text. -/
import Derived.Test.YtnachaiejoflhaaAbsCall4
import Derived.Orders
set_option linter.unusedVariables false
set_option linter.unusedSimpArgs false
namespace Go.Abs
open Go
section
variable {P:Program} {nt:Nat} {F A:Nat→Prop} {Γ0:Gh}
def VD (n:Nat):Nat→Prop:=fun id=>id<n
theorem ZdT (n:Nat):Qz (VD n) n:=fun id h _ hu=>by simp only[VD] at hu;omega
theorem ZdU {n:Nat}:∀ id,VC (VD n) n id→VD (n+64) id:=fun id h=>by
 simp only[VC,VD] at h ⊢;omega
theorem ZqW {n m:Nat} (h:n≤m):∀ id,VD n id→VD m id:=fun id hu=>by simp only[VD] at hu ⊢;omega
def Je (Γ0 Γ:Gh) (_:Hp):Prop:=ZP Γ0 Γ
def Zgx (Γ0:Gh) (m:Nat):Prop:=(∀ k,m≤k→Γ0 k=none)∧∀ k,k<m→∃ r,Γ0 k=some r
def VH (nt:Nat) (F A:Nat→Prop) (Γ0:Gh) (I:Nat→Prop) (w:World) (st' : St) (a' : Act) (w' : World):Prop:=
 ∃ I' Γ',Je Γ0 Γ' st'.hp∧Zx I I' w w'∧(∀ b,I' b→I b∨F b)∧Fr F w w'∧Sim nt F A I' Γ' (VD st'.nx) st'.sl st'.hp a' w'
theorem VH.refl {I:Nat→Prop} {Γ:Gh} {st:St} {a:Act} {w:World} (h:Sim nt F A I Γ (VD st.nx) st.sl st.hp a w) (hc:Je Γ0 Γ st.hp):VH nt F A Γ0 I w st a w:=
 ⟨I,Γ,hc,Zx.refl I w,fun _ h=>.inl h,Fr.refl F w,h⟩
theorem VH.step {I I1:Nat→Prop} {w w1 w' : World} {aa : St} {a' : Act} (hk:Zx I I1 w w1) (hs:∀ b,I1 b→I b∨F b) (hf:Fr F w w1) (h:VH nt F A Γ0 I1 w1 aa a' w'):VH nt F A Γ0 I w aa a' w':=by
 obtain⟨I',Γ',h1,h2,h3,h4,h5⟩:=h;refine⟨I',Γ',h1,hk.trans h2,fun b hb=>?_,hf.trans h4,h5⟩;rcases h3 b hb with h6 | h6
 ·exact hs b h6
 ·exact .inr h6
theorem YF.cpre {Γ Γ' : Gh} {hp hp' : Hp} (hg:ZP Γ Γ') (hc:Je Γ0 Γ hp):Je Γ0 Γ' hp':=fun k r hk=>hg k r (hc k r hk)
theorem Zk9 {I:Nat→Prop} {Γ:Gh} {U:Nat→Prop} {sl:Sl} {hp:Hp} {a:Act} {w:World} (h:Sim nt F A I Γ U sl hp a w) {ops:Array Oper} {o:Oper} {g:Option (Nat×Bool)} (hg:Zgd ops.toList o.guard=some g)
  {b:Bool} (hw:ZD sl g=some b):Region.wanted o (yielded ops a.tmps)=b:=by
 unfold Region.wanted;cases ho:o.guard with
 | none=>
  rw[ho] at hg;simp only[Zgd] at hg;cases hg;simp only[ZD] at hw;cases hw;rfl
 | some q=>
  rw[ho] at hg;simp only[Zgd] at hg;obtain⟨g',h1,hg⟩:=Za hg;obtain⟨t,h2,hg⟩:=Za hg;cases hg;simp only[ZD] at hw;have hr:=h.slots t;have ad : ops[q.1]?=some g':=by simpa using h1
  have hy:yielded ops a.tmps q.1=match a.tmps[t]? with
   | some (.bool b)=>some b
   | _=>none:=by unfold yielded;rw[ad];simp only[Option.bind_some,h2];rfl
  unfold JO at hw;split at hw
  ·rename_i b' aa;cases hw;rw[aa] at hr;have h3:=U9 hr;have h4:a.tmps[t]?=some (.bool b'):=by
    cases ht:a.tmps[t]? with
    | none=>simp[ht,undef] at h3
    | some v=>simp[ht] at h3;rw[h3]
   obtain⟨qj,qw⟩:=q;simp only at hy ⊢;rw[hy,h4];cases b' <;> cases qw<;>rfl
  ·rename_i aa;cases hw;rw[aa] at hr;obtain⟨us,h3,h4⟩:=hr;have h5:∀ b',a.tmps[t]?≠some (.bool b'):=by
    intro b' ab;simp[ab] at h3
   obtain⟨qj,qw⟩:=q;simp only at hy ⊢;rw[hy];cases ht:a.tmps[t]? with
   | none=>rfl
   | some v=>
    cases v<;>first | rfl | (exfalso;exact h5 _ ht)
  ·cases hw
theorem ZdV {Γ:Gh} {w:World} {I:Nat→Prop}:Rep Γ w I (.tup []) undef:=⟨#[],rfl,trivial⟩
theorem Zci {ops:List Oper} {o:Oper} {co:CO} (h:ZeC P nt ops o=some co):Zgd ops o.guard=some co.guard∧X1 (cOp P o.type o.op)=co.op∧Qk nt o.dst=true∧co.dst=o.dst:=by
 unfold ZeC at h;obtain⟨g,h1,h⟩:=Za h;split at h
 ·cases h;exact⟨h1,rfl,by assumption,rfl⟩
 ·cases h
theorem QF {base:Nat} {dst:Option Nat} {sl:Sl} {hp:Hp} {e:Option Zb} {r:Sl×Hp} (h:Xd base dst sl hp e=some r):∃ ce,e=some ce∧Qn base (base+64) ce.eff.adds=true∧r=ce.on dst sl hp:=by
 unfold Xd at h;obtain⟨ce,h1,h⟩:=Za h;split at h
 ·cases h;exact⟨ce,h1,by assumption,rfl⟩
 ·cases h
theorem ZpB {ops:Array Oper} {i:Nat} {o:Oper} {aa:List Oper} (h:ops.toList.drop i=o :: aa):ops[i]?=some o∧ops.toList.drop (i+1)=aa∧i<ops.size:=by
 have h1:(ops.toList.drop i)[0]?=some o:=by rw[h];rfl
 rw[KM] at h1;have h2:ops[i]?=some o:=by simpa using h1
 refine⟨h2,?_,(Kx.1 h2).1⟩;rw[← LR,h];rfl
theorem ZmA {C:Orc} {M:Zf} (hC:Z4 P C) {ops:Array Oper} {Q:Exit→Act→World→Prop} {nx m:Nat} :
  ∀ (os:List CO) (i:Nat) {sl:Sl} {hp:Hp} {r:Sl×Hp} {I:Nat→Prop} {Γ:Gh} {a:Act} {w:World},i≤ops.size→Z3 (ZeC P nt ops.toList) (ops.toList.drop i)=some (ZdR os)→ZaI C M nx i os sl hp=some r →
   Sim nt F A I Γ (VD (nx+64*i)) sl hp a w→Je Γ0 Γ hp→(∀ a' w',VH nt F A Γ0 I w { sl:=r.1,hp:=r.2,nx:=nx+64*ops.size,m:=m } a' w'→Q .normal a' w') →
   wpOps P ops Q (List.range' i (ops.size-i)) a w:=by
 intro os
 induction os with
 | nil=>
  intro i sl hp r I Γ a w ag aa hv hS hc hQ;have hd:ops.toList.drop i=[]:=by
   cases hd:ops.toList.drop i with
   | nil=>rfl
   | cons o rest=>
    rw[hd] at aa;simp only[Z3] at aa;obtain⟨_,_,aa⟩:=Za aa;obtain⟨_,_,aa⟩:=Za aa;simp[ZdR] at aa
  have hi:ops.size≤i:=by
   have:=List.drop_eq_nil_iff.1 hd;simpa using this
  have ak:i=ops.size:=by omega
  subst ak;rw[show ops.size-ops.size=0 by omega];simp only[ZaI] at hv;cases hv;simp only[List.range',wpOps];exact hQ a w (VH.refl (st := { sl:=sl,hp:=hp,nx:=nx+64*ops.size,m:=m }) hS hc)
 | cons co os ih=>
  intro i sl hp r I Γ a w ag aa hv hS hc hQ;cases hd:ops.toList.drop i with
  | nil=>rw[hd] at aa;simp[Z3,ZdR] at aa
  | cons o rest=>
   obtain⟨ho,ad,an⟩:=ZpB hd;rw[hd] at aa;simp only[Z3] at aa;obtain⟨ao,h1,aa⟩:=Za aa;obtain⟨ap,h2,aa⟩:=Za aa;simp only[ZdR,Option.some.injEq,List.cons.injEq] at aa;obtain⟨rfl,rfl⟩:=aa;obtain⟨hg,ai,ae,aj⟩:=Zci h1;dsimp only at hg ai aj;rw[show ops.size-i=(ops.size-(i+1))+1 by omega,List.range'_succ];simp only[ZaI] at hv;obtain⟨b,hw,hv⟩:=Za hv;have af:=Zk9 hS hg hw;simp only[wpOps,ho,af];rw[aj] at hv;cases b with
   | true=>
    simp only[Kh] at hv ⊢;obtain⟨q,hq,hv⟩:=Za hv;obtain⟨ce,al,am,rfl⟩:=QF hq;refine .inl (Zqu hC hS ai (ZdT _) ae am al _ _ fun u w' hp'=>?_);obtain⟨I1,Γ1,b1,b2,b3,b4,b5⟩:=hp';refine ih (i+1) (by omega) (by rw[ad];exact h2) hv (by rw[show nx+64*(i+1)=nx+64*i+64 by omega];exact b5.more ZdU) (YF.cpre b1 hc) fun a' ah ab=>hQ a' ah (ab.step b2 b3 b4)
   | false=>
    simp only[Ka,Kg] at hv ⊢;obtain⟨I1,Γ1,b1,b2,b3,b4,b5⟩:=hS.pure (U':=VD (nx+64*(i+1))) (v:=.tup []) (u:=undef) (dst:=o.dst) (ZqW (by omega)) ZdV ae;exact ih (i+1) (by omega) (by rw[ad];exact h2) hv b5 (YF.cpre b1 hc) fun a' ah ab=>hQ a' ah (ab.step b2 b3 b4)
theorem Zc8 {hp:Hp} {ids:List Nat}:∀ {l:List Nat} {i:Nat},i∈l→i∉ZaJ hp ids l→UR hp ids i=true
 | [],i,h,_=>by simp at h
 | x :: r,i,h,hn=>by
  simp only[ZaJ] at hn;cases hl:UR hp ids x with
  | true=>
   rw[hl] at hn;simp only[Kh] at hn;rcases Kf.1 h with rfl | h
   ·exact hl
   ·exact Zc8 h hn
  | false=>
   rw[hl] at hn;simp only[Ka,Kg,Kf,not_or] at hn;rcases Kf.1 h with rfl | h
   ·exact absurd rfl hn.1
   ·exact Zc8 h hn.2
def Uf (_:Hp) (ids:List Nat) (Γ:Gh):Gh:=fun k=>match ids[k]? with
 | some id=>Γ id
 | none=>none
theorem ZiA {hp:Hp} {ids:List Nat} {Γ:Gh} {id:Nat} (h:UR hp ids id=true):Uf hp ids Γ (XZ ids id)=Γ id:=by
 simp only[UR,Kb,KD,Kr] at h;simp only[Uf,(ZcA h.1).2]
section
variable {I:Nat→Prop} {Γ:Gh} {U:Nat→Prop} {sl:Sl} {hp:Hp} {a:Act} {w:World}
theorem Zgy (ids:List Nat) {x:AV} {v:Value} (h:Rep Γ w I x v):Rep (Uf hp ids Γ) w I (Jd hp ids x) v:=by
 refine Ze9 (fun id aa r hr=>?_) (Zx.refl I w) (Zkj (bad:=ZaJ hp ids (Zl x)) h);obtain⟨h1,h2⟩:=Zh3 _ _ id aa;rw[ZiA (Zc8 h1 h2)];exact hr
theorem ZpC {ids:List Nat} {k id:Nat} (hk:ids[k]?=some id) {o:Zg} (hl:lkp hp id=some o) (ho:Xm Γ w I F A id o):Xm (Uf hp ids Γ) w I F A k (ZaK hp ids o):=by
 have hG:Uf hp ids Γ k=Γ id:=by simp[Uf,hk]
 cases o with
 | box cs=>
  obtain⟨b,cur,e,h1,h2,h3,h4,h5,ab⟩:=ho;refine⟨b,cur,e,by rw[hG,h1],h2,h3,h4,?_,(ab.map (YZ _)).map (WQ _)⟩;have h6:Zm (QO Γ w I) (cs.map (Zw (ZaJ hp ids (Ve (.box cs))))) cur.toList:=h5.map_left fun _ _ h=>Zdw h;refine U3 (fun ae aa r hr=>?_) (Zx.refl I w) h6;obtain⟨y,hy,aa⟩:=Kl.1 aa;obtain⟨x,hx,rfl⟩:=KZ.1 hy;obtain⟨h7,h8⟩:=ZbX _ x ae aa;rw[ZiA (Zc8 (Kl.2 ⟨x,hx,h7⟩) h8)];exact hr
 | row sz xs ex fz=>
  obtain⟨ad,n,c,h1,h2⟩:=ho;exact⟨ad,n,c,by rw[hG,h1],h2⟩
 | gone=>
  obtain⟨r,h1⟩:=ho;exact⟨r,by rw[hG,h1]⟩
 | tree sz ns xs lk=>
  obtain⟨ad,n,c,h1,h2,h3⟩:=ho;refine⟨ad,n,c,by rw[hG,h1],?_,Q9.lose (Q9.kill (Γ':=Γ) h3 (fun _ _ _ h=>h) fun _ _=>rfl)⟩;rw[Y9,Va];exact h2
theorem ZmB (h:Sim nt F A I Γ U sl hp a w) {ids:List Nat} (af:ids.Nodup) (ae:∀ id∈ids,∃ r,Γ id=some r) :
  VN (Uf hp ids Γ) w I F A (Yh 0 ((UN hp ids).map (ZaK hp ids))) ∧
  (∀ i j o o' b,lkp (Yh 0 ((UN hp ids).map (ZaK hp ids))) i=some o→lkp (Yh 0 ((UN hp ids).map (ZaK hp ids))) j=some o'→Blk (Uf hp ids Γ) w i o b→Blk (Uf hp ids Γ) w j o' b→i=j) ∧
  (∀ id,ids.length≤id→Uf hp ids Γ id=none):=by
 have get:∀ k o,lkp (Yh 0 ((UN hp ids).map (ZaK hp ids))) k=some o→∃ id,ids[k]?=some id∧o=ZaK hp ids (ZkT (lkp hp id)):=by
  intro k o hk;rw[Vg] at hk;simp only[Nat.zero_le,Kh,Nat.sub_zero,Lj,Zfr,Option.map_map] at hk;cases hi:ids[k]? with
  | none=>rw[hi] at hk;cases hk
  | some id=>
   rw[hi] at hk;simp only[KO,Option.some.injEq,Function.comp_apply] at hk;exact⟨id,rfl,hk.symm⟩
 refine⟨fun k o hk=>?_,fun i j o o' b hi hj aa ab=>?_,fun id ag=>?_⟩
 ·obtain⟨id,h1,rfl⟩:=get k o hk;cases hl:lkp hp id with
  | none=>
   obtain⟨r,hr⟩:=ae id (Ki h1);exact⟨r,by simp[Uf,h1,hr]⟩
  | some o0=>exact ZpC h1 hl (h.objs id o0 hl)
 ·obtain⟨id,h1,rfl⟩:=get i o hi;obtain⟨ad,h2,rfl⟩:=get j o' hj;have bk:∀ (k id:Nat) (o0:Zg),Uf hp ids Γ k=Γ id→Blk (Uf hp ids Γ) w k (ZaK hp ids o0) b→Blk Γ w id o0 b:=by
   intro k id o0 e hb;rcases hb with hb | hb | hb
   ·unfold ZaK at hb;rw[ZdM,Zcd,e] at hb;exact .inl hb
   ·cases o0 with
    | box cs=>exact False.elim hb
    | row sz xs ex fz=>exact False.elim hb
    | gone=>exact False.elim hb
    | tree sz ns xs lk=>
     obtain⟨g,p,h5,h6⟩:=hb;rw[Y9,Va] at h6;exact .inr (.inl ⟨g,p,e ▸ h5,h6⟩)
   ·cases o0 with
    | box cs=>exact .inr (.inr ((Buf.unmap (YZ _) (Buf.unmap (WQ _) hb)).ren e.symm))
    | row sz xs ex fz=>exact False.elim hb
    | gone=>exact False.elim hb
    | tree sz ns xs lk=>exact False.elim hb
  cases hl:lkp hp id with
  | none=>rw[hl] at aa;exact aa.isGone.elim
  | some o0=>
   cases hl' : lkp hp ad with
   | none=>rw[hl'] at ab;exact ab.isGone.elim
   | some o1=>
    have e1:Uf hp ids Γ i=Γ id:=by simp[Uf,h1]
    have e2:Uf hp ids Γ j=Γ ad:=by simp[Uf,h2]
    rw[hl] at aa;rw[hl'] at ab;have:=h.inj id ad o0 o1 b hl hl' (bk i id o0 e1 aa) (bk j ad o1 e2 ab);subst this;exact Zh4 af h1 h2
 ·simp[Uf,KF ag]
theorem WG (hp:Hp):∀ (n:Nat) (todo aa:List Nat),∃ t,Qq hp n todo aa=aa++t
 | 0,todo,aa=>⟨[],by simp[Qq]⟩
 | n+1,[],aa=>⟨[],by simp[Qq]⟩
 | n+1,id :: todo,aa=>by
  simp only[Qq];split
  ·exact WG hp n todo aa
  ·cases lkp hp id with
   | none=>simp only[Vn];exact WG hp n todo aa
   | some o=>
    simp only[Vn];obtain⟨t,ht⟩:=WG hp n (todo++Ve o) (aa++[id]);exact⟨id :: t,by rw[ht];simp⟩
theorem Zla {hp:Hp} {n m:Nat} {todo:List Nat} {k:Nat} (hk:k<m):(Qq hp n todo (List.range m))[k]?=some k:=by
 obtain⟨t,ht⟩:=WG hp n todo (List.range m);rw[ht,KE (by simpa using hk)];simp[hk]
theorem ZiB {n m:Nat} {todo:List Nat} {hp' : Hp} (hc:Je Γ0 Γ hp) (hm:Zgx Γ0 m) :
  Je Γ0 (Uf hp (Qq hp n todo (List.range m)) Γ) hp':=by
 intro k r hk;have aa:k<m:=by
  rcases KK k m with h | h
  ·exact h
  ·rw[hm.1 k h] at hk;cases hk
 simp only[Uf,Zla (hp:=hp) (n:=n) (todo:=todo) aa];exact hc k r hk
theorem ZaO (h:Sim nt F A I Γ U sl hp a w) {n m:Nat} {todo:List Nat} (hc:Je Γ0 Γ hp) (hm:Zgx Γ0 m):∀ id∈Qq hp n todo (List.range m),∃ r,Γ id=some r:=by
 intro id aa;rcases (Vf hp n todo (List.range m) LL).2.2 id aa with h1 | ⟨o,ho⟩
 ·obtain⟨r,hr⟩:=hm.2 id (by simpa using h1);exact⟨r,hc id r hr⟩
 ·have:=h.objs id o ho;cases o with
  | box cs=>obtain⟨b,cur,e,h1,_⟩:=this;exact⟨_,h1⟩
  | row sz xs ex fz=>obtain⟨ad,n,c,h1,_⟩:=this;exact⟨_,h1⟩
  | tree sz ns xs lk=>obtain⟨ad,n,c,h1,_⟩:=this;exact⟨_,h1⟩
  | gone=>exact this
theorem Zc9 {α:Type} (K:List Nat):∀ (l:List (Nat×α)) (t:Nat),lkp (only K l) t=if K.contains t then lkp l t else none
 | [],t=>by simp[only,lkp]
 | (k,v) :: r,t=>by
  simp only[only];by_cases hk:K.contains k=true
  ·rw[Ko hk];simp only[lkp,Zc9 K r];by_cases aa:k=t
   ·subst aa;simp only[Kh,hk]
   ·simp only[Kk aa]
  ·rw[Kk hk,Zc9 K r];simp only[lkp];by_cases aa:k=t
   ·subst aa;simp only[Kh];rw[Kk hk,Kk hk]
   ·simp only[Kk aa]
end
theorem Zou {I:Nat→Prop} {Γ:Gh} {st:St} {a:Act} {w:World} (h:Sim nt F A I Γ (VD st.nx) st.sl st.hp a w) (hc:Je Γ0 Γ st.hp) (hm:Zgx Γ0 st.m) (K:List Nat) :
  ∃ Γ',Sim nt F A I Γ' (VD (Y6 K st).nx) (Y6 K st).sl (Y6 K st).hp a w∧Je Γ0 Γ' (Y6 K st).hp:=by
 have aa:=(Vf st.hp (QT st.hp) (Ziy (only K st.sl)++Yu st.hp (List.range st.m)) (List.range st.m) LL).1;obtain⟨h1,h2,h3⟩:=ZmB h aa (ZaO h hc hm);refine⟨Uf st.hp (Qq st.hp (QT st.hp) (Ziy (only K st.sl)++Yu st.hp (List.range st.m)) (List.range st.m)) Γ,
  { nt:=h.nt,dfr:=h.dfr,slots:=fun t=>?_,objs:=h1,inj:=h2,bound:=h.bound,fresh:=h.fresh,own:=h.own,names:=fun id ab=>h3 id (Nat.le_of_not_lt ab),glob:=h.glob },ZiB hc hm⟩
 show Rep _ w I (gs (Zdt _ (only K st.sl)) t) _;simp only[gs,ZaQ,Zc9];have hs:=h.slots t;simp only[gs] at hs;by_cases hK:K.contains t=true
 ·rw[Ko hK];cases hl:lkp st.sl t with
  | none=>exact trivial
  | some v=>rw[hl] at hs;exact Zgy _ hs
 ·rw[Kk hK];exact trivial
end
end Go.Abs
