/- Own text. -/
import Derived.Test.YtighjmleicikhaaAbsCall4
import Derived.Orders
set_option linter.unusedVariables false
set_option linter.unusedSimpArgs false
namespace Go.Abs
open Go
section
variable {P:Program} {nt:Nat} {F A:Nat→Prop} {Γ0:Gh}
def V1 (n:Nat):Nat→Prop:=fun id=>id<n
theorem ZeF (n:Nat):QD (V1 n) n:=fun id h _ hu=>by simp only[V1] at hu;omega
theorem ZeG {n:Nat}:∀ id,V0 (V1 n) n id→V1 (n+64) id:=fun id h=>by
 simp only[V0,V1] at h ⊢;omega
theorem Zr5 {n m:Nat} (h:n≤m):∀ id,V1 n id→V1 m id:=fun id hu=>by simp only[V1] at hu ⊢;omega
def JP (Γ0 Γ:Gh) (_:Hp):Prop:=ZU Γ0 Γ
def Zhx (Γ0:Gh) (m:Nat):Prop:=(∀ k,m≤k→Γ0 k=none)∧∀ k,k<m→∃ r,Γ0 k=some r
def V5 (nt:Nat) (F A:Nat→Prop) (Γ0:Gh) (I:Nat→Prop) (w:World) (st' : St) (a' : Act) (w' : World):Prop:=
 ∃ I' Γ',JP Γ0 Γ' st'.hp∧ZB I I' w w'∧(∀ b,I' b→I b∨F b)∧Fr F w w'∧Sim nt F A I' Γ' (V1 st'.nx) st'.sl st'.hp a' w'
theorem V5.refl {I:Nat→Prop} {Γ:Gh} {st:St} {a:Act} {w:World} (h:Sim nt F A I Γ (V1 st.nx) st.sl st.hp a w) (hc:JP Γ0 Γ st.hp):V5 nt F A Γ0 I w st a w:=
 ⟨I,Γ,hc,ZB.refl I w,fun _ h=>.inl h,Fr.refl F w,h⟩
theorem V5.step {I I1:Nat→Prop} {w w1 w' : World} {aa : St} {a' : Act} (hk:ZB I I1 w w1) (hs:∀ b,I1 b→I b∨F b) (hf:Fr F w w1) (h:V5 nt F A Γ0 I1 w1 aa a' w'):V5 nt F A Γ0 I w aa a' w':=by
 obtain⟨I',Γ',h1,h2,h3,h4,h5⟩:=h;refine⟨I',Γ',h1,hk.trans h2,fun b hb=>?_,hf.trans h4,h5⟩;rcases h3 b hb with h6 | h6
 ·exact hs b h6
 ·exact .inr h6
theorem YU.cpre {Γ Γ' : Gh} {hp hp' : Hp} (hg:ZU Γ Γ') (hc:JP Γ0 Γ hp):JP Γ0 Γ' hp':=fun k r hk=>hg k r (hc k r hk)
theorem Zl4 {I:Nat→Prop} {Γ:Gh} {U:Nat→Prop} {sl:Sl} {hp:Hp} {a:Act} {w:World} (h:Sim nt F A I Γ U sl hp a w) {ops:Array Oper} {o:Oper} {g:Option (Nat×Bool)} (hg:Zhd ops.toList o.guard=some g)
  {b:Bool} (hw:ZG sl g=some b):Region.wanted o (yielded ops a.tmps)=b:=by
 unfold Region.wanted;cases ho:o.guard with
 | none=>
  rw[ho] at hg;simp only[Zhd] at hg;cases hg;simp only[ZG] at hw;cases hw;rfl
 | some q=>
  rw[ho] at hg;simp only[Zhd] at hg;obtain⟨g',h1,hg⟩:=Za hg;obtain⟨t,h2,hg⟩:=Za hg;cases hg;simp only[ZG] at hw;have hr:=h.slots t;have ad : ops[q.1]?=some g':=by simpa using h1
  have hy:yielded ops a.tmps q.1=match a.tmps[t]? with
   | some (.bool b)=>some b
   | _=>none:=by unfold yielded;rw[ad];simp only[Option.bind_some,h2];rfl
  unfold Zar at hw;split at hw
  ·rename_i b' aa;cases hw;rw[aa] at hr;have h3:=JK hr;have h4:a.tmps[t]?=some (.bool b'):=by
    cases ht:a.tmps[t]? with
    | none=>simp[ht,undef] at h3
    | some v=>simp[ht] at h3;rw[h3]
   obtain⟨qj,qw⟩:=q;simp only at hy ⊢;rw[hy,h4];cases b' <;> cases qw<;>rfl
  ·rename_i aa;cases hw;rw[aa] at hr;obtain⟨us,h3,h4⟩:=hr;have h5:∀ b',a.tmps[t]?≠some (.bool b'):=by
    intro b' ab;simp[ab] at h3
   obtain⟨qj,qw⟩:=q;simp only at hy ⊢;rw[hy];cases ht:a.tmps[t]? with
   | none=>rfl
   | some v=>
    cases v<;>first | rfl | (exfalso;exact h5 _ ht)
  ·cases hw
theorem ZeH {Γ:Gh} {w:World} {I:Nat→Prop}:Rep Γ w I (.tup []) undef:=⟨#[],rfl,trivial⟩
theorem Zc4 {ops:List Oper} {o:Oper} {co:CO} (h:Zfe P nt ops o=some co):Zhd ops o.guard=some co.guard∧Yb (cOp P o.type o.op)=co.op∧Qr nt o.dst=true∧co.dst=o.dst:=by
 unfold Zfe at h;obtain⟨g,h1,h⟩:=Za h;split at h
 ·cases h;exact⟨h1,rfl,by assumption,rfl⟩
 ·cases h
theorem QO {base:Nat} {dst:Option Nat} {sl:Sl} {hp:Hp} {e:Option Zb} {r:Sl×Hp} (h:Xq base dst sl hp e=some r):∃ ce,e=some ce∧Qu base (base+64) ce.eff.adds=true∧r=ce.on dst sl hp:=by
 unfold Xq at h;obtain⟨ce,h1,h⟩:=Za h;split at h
 ·cases h;exact⟨ce,h1,by assumption,rfl⟩
 ·cases h
theorem ZqC {ops:Array Oper} {i:Nat} {o:Oper} {aa:List Oper} (h:ops.toList.drop i=o :: aa):ops[i]?=some o∧ops.toList.drop (i+1)=aa∧i<ops.size:=by
 have h1:(ops.toList.drop i)[0]?=some o:=by rw[h];rfl
 rw[KN] at h1;have h2:ops[i]?=some o:=by simpa using h1
 refine⟨h2,?_,(KA.1 h2).1⟩;rw[← LQ,h];rfl
theorem Znq {C:Orc} {M:Zg} (hC:Z7 P C) {ops:Array Oper} {Q:Exit→Act→World→Prop} {nx m:Nat} :
  ∀ (os:List CO) (i:Nat) {sl:Sl} {hp:Hp} {r:Sl×Hp} {I:Nat→Prop} {Γ:Gh} {a:Act} {w:World},i≤ops.size→Z6 (Zfe P nt ops.toList) (ops.toList.drop i)=some (ZeD os)→Zbm C M nx i os sl hp=some r →
   Sim nt F A I Γ (V1 (nx+64*i)) sl hp a w→JP Γ0 Γ hp→(∀ a' w',V5 nt F A Γ0 I w { sl:=r.1,hp:=r.2,nx:=nx+64*ops.size,m:=m } a' w'→Q .normal a' w') →
   wpOps P ops Q (List.range' i (ops.size-i)) a w:=by
 intro os
 induction os with
 | nil=>
  intro i sl hp r I Γ a w ag aa hv hS hc hQ;have hd:ops.toList.drop i=[]:=by
   cases hd:ops.toList.drop i with
   | nil=>rfl
   | cons o rest=>
    rw[hd] at aa;simp only[Z6] at aa;obtain⟨_,_,aa⟩:=Za aa;obtain⟨_,_,aa⟩:=Za aa;simp[ZeD] at aa
  have hi:ops.size≤i:=by
   have:=List.drop_eq_nil_iff.1 hd;simpa using this
  have ak:i=ops.size:=by omega
  subst ak;rw[show ops.size-ops.size=0 by omega];simp only[Zbm] at hv;cases hv;simp only[List.range',wpOps];exact hQ a w (V5.refl (st := { sl:=sl,hp:=hp,nx:=nx+64*ops.size,m:=m }) hS hc)
 | cons co os ih=>
  intro i sl hp r I Γ a w ag aa hv hS hc hQ;cases hd:ops.toList.drop i with
  | nil=>rw[hd] at aa;simp[Z6,ZeD] at aa
  | cons o rest=>
   obtain⟨ho,ad,an⟩:=ZqC hd;rw[hd] at aa;simp only[Z6] at aa;obtain⟨ao,h1,aa⟩:=Za aa;obtain⟨ap,h2,aa⟩:=Za aa;simp only[ZeD,Option.some.injEq,List.cons.injEq] at aa;obtain⟨rfl,rfl⟩:=aa;obtain⟨hg,ai,ae,aj⟩:=Zc4 h1;dsimp only at hg ai aj;rw[show ops.size-i=(ops.size-(i+1))+1 by omega,List.range'_succ];simp only[Zbm] at hv;obtain⟨b,hw,hv⟩:=Za hv;have af:=Zl4 hS hg hw;simp only[wpOps,ho,af];rw[aj] at hv;cases b with
   | true=>
    simp only[Kh] at hv ⊢;obtain⟨q,hq,hv⟩:=Za hv;obtain⟨ce,al,am,rfl⟩:=QO hq;refine .inl (ZrD hC hS ai (ZeF _) ae am al _ _ fun u w' hp'=>?_);obtain⟨I1,Γ1,b1,b2,b3,b4,b5⟩:=hp';refine ih (i+1) (by omega) (by rw[ad];exact h2) hv (by rw[show nx+64*(i+1)=nx+64*i+64 by omega];exact b5.more ZeG) (YU.cpre b1 hc) fun a' ah ab=>hQ a' ah (ab.step b2 b3 b4)
   | false=>
    simp only[Ka,Kg] at hv ⊢;obtain⟨I1,Γ1,b1,b2,b3,b4,b5⟩:=hS.pure (U':=V1 (nx+64*(i+1))) (v:=.tup []) (u:=undef) (dst:=o.dst) (Zr5 (by omega)) ZeH ae;exact ih (i+1) (by omega) (by rw[ad];exact h2) hv b5 (YU.cpre b1 hc) fun a' ah ab=>hQ a' ah (ab.step b2 b3 b4)
theorem ZdR {hp:Hp} {ids:List Nat}:∀ {l:List Nat} {i:Nat},i∈l→i∉Zbn hp ids l→Ju hp ids i=true
 | [],i,h,_=>by simp at h
 | x :: r,i,h,hn=>by
  simp only[Zbn] at hn;cases hl:Ju hp ids x with
  | true=>
   rw[hl] at hn;simp only[Kh] at hn;rcases Ke.1 h with rfl | h
   ·exact hl
   ·exact ZdR h hn
  | false=>
   rw[hl] at hn;simp only[Ka,Kg,Ke,not_or] at hn;rcases Ke.1 h with rfl | h
   ·exact absurd rfl hn.1
   ·exact ZdR h hn.2
def UR (_:Hp) (ids:List Nat) (Γ:Gh):Gh:=fun k=>match ids[k]? with
 | some id=>Γ id
 | none=>none
theorem Zi6 {hp:Hp} {ids:List Nat} {Γ:Gh} {id:Nat} (h:Ju hp ids id=true):UR hp ids Γ (X9 ids id)=Γ id:=by
 simp only[Ju,Kb,KD,Kj] at h;simp only[UR,(Zdj h.1).2]
section
variable {I:Nat→Prop} {Γ:Gh} {U:Nat→Prop} {sl:Sl} {hp:Hp} {a:Act} {w:World}
theorem Zhy (ids:List Nat) {x:AV} {v:Value} (h:Rep Γ w I x v):Rep (UR hp ids Γ) w I (JO hp ids x) v:=by
 refine ZfC (fun id aa r hr=>?_) (ZB.refl I w) (Zld (bad:=Zbn hp ids (Zm x)) h);obtain⟨h1,h2⟩:=Ziz _ _ id aa;rw[Zi6 (ZdR h1 h2)];exact hr
theorem ZqD {ids:List Nat} {k id:Nat} (hk:ids[k]?=some id) {o:Zh} (hl:lkp hp id=some o) (ho:Xw Γ w I F A id o):Xw (UR hp ids Γ) w I F A k (Zbo hp ids o):=by
 have hG:UR hp ids Γ k=Γ id:=by simp[UR,hk]
 cases o with
 | box cs=>
  obtain⟨b,cur,e,h1,h2,h3,h4,h5,ab⟩:=ho;refine⟨b,cur,e,by rw[hG,h1],h2,h3,h4,?_,(ab.map (Vl _)).map (Ui _)⟩;have h6:Zn (QZ Γ w I) (cs.map (Zz (Zbn hp ids (VH (.box cs))))) cur.toList:=h5.map_left fun _ _ h=>Zei h;refine JD (fun ae aa r hr=>?_) (ZB.refl I w) h6;obtain⟨y,hy,aa⟩:=Kl.1 aa;obtain⟨x,hx,rfl⟩:=K7.1 hy;obtain⟨h7,h8⟩:=ZcK _ x ae aa;rw[Zi6 (ZdR (Kl.2 ⟨x,hx,h7⟩) h8)];exact hr
 | row sz xs ex fz=>
  obtain⟨ad,n,c,h1,h2⟩:=ho;exact⟨ad,n,c,by rw[hG,h1],h2⟩
 | gone=>
  obtain⟨r,h1⟩:=ho;exact⟨r,by rw[hG,h1]⟩
 | tree sz ns xs lk=>
  obtain⟨ad,n,c,h1,h2,h3⟩:=ho;refine⟨ad,n,c,by rw[hG,h1],?_,Xm.lose (Xm.kill (Γ':=Γ) h3 (fun _ _ _ h=>h) fun _ _=>rfl)⟩;rw[Vw,Vx];exact h2
theorem Znr (h:Sim nt F A I Γ U sl hp a w) {ids:List Nat} (af:ids.Nodup) (ae:∀ id∈ids,∃ r,Γ id=some r) :
  Wc (UR hp ids Γ) w I F A (Yz 0 ((Jo hp ids).map (Zbo hp ids))) ∧
  (∀ i j o o' b,lkp (Yz 0 ((Jo hp ids).map (Zbo hp ids))) i=some o→lkp (Yz 0 ((Jo hp ids).map (Zbo hp ids))) j=some o'→Blk (UR hp ids Γ) w i o b→Blk (UR hp ids Γ) w j o' b→i=j) ∧
  (∀ id,ids.length≤id→UR hp ids Γ id=none):=by
 have get:∀ k o,lkp (Yz 0 ((Jo hp ids).map (Zbo hp ids))) k=some o→∃ id,ids[k]?=some id∧o=Zbo hp ids (ZlN (lkp hp id)):=by
  intro k o hk;rw[VJ] at hk;simp only[Nat.zero_le,Kh,Nat.sub_zero,Lh,Zgq,Option.map_map] at hk;cases hi:ids[k]? with
  | none=>rw[hi] at hk;cases hk
  | some id=>
   rw[hi] at hk;simp only[KO,Option.some.injEq,Function.comp_apply] at hk;exact⟨id,rfl,hk.symm⟩
 refine⟨fun k o hk=>?_,fun i j o o' b hi hj aa ab=>?_,fun id ag=>?_⟩
 ·obtain⟨id,h1,rfl⟩:=get k o hk;cases hl:lkp hp id with
  | none=>
   obtain⟨r,hr⟩:=ae id (Kr h1);exact⟨r,by simp[UR,h1,hr]⟩
  | some o0=>exact ZqD h1 hl (h.objs id o0 hl)
 ·obtain⟨id,h1,rfl⟩:=get i o hi;obtain⟨ad,h2,rfl⟩:=get j o' hj;have bk:∀ (k id:Nat) (o0:Zh),UR hp ids Γ k=Γ id→Blk (UR hp ids Γ) w k (Zbo hp ids o0) b→Blk Γ w id o0 b:=by
   intro k id o0 e hb;rcases hb with hb | hb | hb
   ·unfold Zbo at hb;rw[Zey,ZcZ,e] at hb;exact .inl hb
   ·cases o0 with
    | box cs=>exact False.elim hb
    | row sz xs ex fz=>exact False.elim hb
    | gone=>exact False.elim hb
    | tree sz ns xs lk=>
     obtain⟨g,p,h5,h6⟩:=hb;rw[Vw,Vx] at h6;exact .inr (.inl ⟨g,p,e ▸ h5,h6⟩)
   ·cases o0 with
    | box cs=>exact .inr (.inr ((Buf.unmap (Vl _) (Buf.unmap (Ui _) hb)).ren e.symm))
    | row sz xs ex fz=>exact False.elim hb
    | gone=>exact False.elim hb
    | tree sz ns xs lk=>exact False.elim hb
  cases hl:lkp hp id with
  | none=>rw[hl] at aa;exact aa.isGone.elim
  | some o0=>
   cases hl' : lkp hp ad with
   | none=>rw[hl'] at ab;exact ab.isGone.elim
   | some o1=>
    have e1:UR hp ids Γ i=Γ id:=by simp[UR,h1]
    have e2:UR hp ids Γ j=Γ ad:=by simp[UR,h2]
    rw[hl] at aa;rw[hl'] at ab;have:=h.inj id ad o0 o1 b hl hl' (bk i id o0 e1 aa) (bk j ad o1 e2 ab);subst this;exact ZiA af h1 h2
 ·simp[UR,KE ag]
theorem Ua (hp:Hp):∀ (n:Nat) (todo aa:List Nat),∃ t,Qw hp n todo aa=aa++t
 | 0,todo,aa=>⟨[],by simp[Qw]⟩
 | n+1,[],aa=>⟨[],by simp[Qw]⟩
 | n+1,id :: todo,aa=>by
  simp only[Qw];split
  ·exact Ua hp n todo aa
  ·cases lkp hp id with
   | none=>simp only[VR];exact Ua hp n todo aa
   | some o=>
    simp only[VR];obtain⟨t,ht⟩:=Ua hp n (todo++VH o) (aa++[id]);exact⟨id :: t,by rw[ht];simp⟩
theorem Zl5 {hp:Hp} {n m:Nat} {todo:List Nat} {k:Nat} (hk:k<m):(Qw hp n todo (List.range m))[k]?=some k:=by
 obtain⟨t,ht⟩:=Ua hp n todo (List.range m);rw[ht,Ky (by simpa using hk)];simp[hk]
theorem Zi7 {n m:Nat} {todo:List Nat} {hp' : Hp} (hc:JP Γ0 Γ hp) (hm:Zhx Γ0 m) :
  JP Γ0 (UR hp (Qw hp n todo (List.range m)) Γ) hp':=by
 intro k r hk;have aa:k<m:=by
  rcases KK k m with h | h
  ·exact h
  ·rw[hm.1 k h] at hk;cases hk
 simp only[UR,Zl5 (hp:=hp) (n:=n) (todo:=todo) aa];exact hc k r hk
theorem Zbs (h:Sim nt F A I Γ U sl hp a w) {n m:Nat} {todo:List Nat} (hc:JP Γ0 Γ hp) (hm:Zhx Γ0 m):∀ id∈Qw hp n todo (List.range m),∃ r,Γ id=some r:=by
 intro id aa;rcases (VI hp n todo (List.range m) LH).2.2 id aa with h1 | ⟨o,ho⟩
 ·obtain⟨r,hr⟩:=hm.2 id (by simpa using h1);exact⟨r,hc id r hr⟩
 ·have:=h.objs id o ho;cases o with
  | box cs=>obtain⟨b,cur,e,h1,_⟩:=this;exact⟨_,h1⟩
  | row sz xs ex fz=>obtain⟨ad,n,c,h1,_⟩:=this;exact⟨_,h1⟩
  | tree sz ns xs lk=>obtain⟨ad,n,c,h1,_⟩:=this;exact⟨_,h1⟩
  | gone=>exact this
theorem ZdS {α:Type} (K:List Nat):∀ (l:List (Nat×α)) (t:Nat),lkp (only K l) t=if K.contains t then lkp l t else none
 | [],t=>by simp[only,lkp]
 | (k,v) :: r,t=>by
  simp only[only];by_cases hk:K.contains k=true
  ·rw[Ku hk];simp only[lkp,ZdS K r];by_cases aa:k=t
   ·subst aa;simp only[Kh,hk]
   ·simp only[Kp aa]
  ·rw[Kp hk,ZdS K r];simp only[lkp];by_cases aa:k=t
   ·subst aa;simp only[Kh];rw[Kp hk,Kp hk]
   ·simp only[Kp aa]
end
theorem Zpg {I:Nat→Prop} {Γ:Gh} {st:St} {a:Act} {w:World} (h:Sim nt F A I Γ (V1 st.nx) st.sl st.hp a w) (hc:JP Γ0 Γ st.hp) (hm:Zhx Γ0 st.m) (K:List Nat) :
  ∃ Γ',Sim nt F A I Γ' (V1 (Vt K st).nx) (Vt K st).sl (Vt K st).hp a w∧JP Γ0 Γ' (Vt K st).hp:=by
 have aa:=(VI st.hp (Q3 st.hp) (Zi4 (only K st.sl)++YK st.hp (List.range st.m)) (List.range st.m) LH).1;obtain⟨h1,h2,h3⟩:=Znr h aa (Zbs h hc hm);refine⟨UR st.hp (Qw st.hp (Q3 st.hp) (Zi4 (only K st.sl)++YK st.hp (List.range st.m)) (List.range st.m)) Γ,
  { nt:=h.nt,dfr:=h.dfr,slots:=fun t=>?_,objs:=h1,inj:=h2,bound:=h.bound,fresh:=h.fresh,own:=h.own,names:=fun id ab=>h3 id (Nat.le_of_not_lt ab),glob:=h.glob },Zi7 hc hm⟩
 show Rep _ w I (gs (Zef _ (only K st.sl)) t) _;simp only[gs,Zbu,ZdS];have hs:=h.slots t;simp only[gs] at hs;by_cases hK:K.contains t=true
 ·rw[Ku hK];cases hl:lkp st.sl t with
  | none=>exact trivial
  | some v=>rw[hl] at hs;exact Zhy _ hs
 ·rw[Kp hK];exact trivial
end
end Go.Abs
