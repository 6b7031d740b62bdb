/- Own text. -/
import Derived.Test.YtdhgppkldoopaaaGreatAbsCall4
import Derived.Orders
set_option linter.unusedVariables false
set_option linter.unusedSimpArgs false
namespace Go.Abs
open Go
section
variable {P:Program} {nt:Nat} {F A:Nat→Prop} {Γ0:Gh}
def JD (n:Nat):Nat→Prop:=fun id=>id<n
theorem Zl7 (n:Nat):QZ (JD n) n:=fun id h _ hu=>by simp only[JD] at hu;omega
theorem Zl8 {n:Nat}:∀ id,JC (JD n) n id→JD (n+64) id:=fun id h=>by
 simp only[JC,JD] at h ⊢;omega
theorem ZAm {n m:Nat} (h:n≤m):∀ id,JD n id→JD m id:=fun id hu=>by simp only[JD] at hu ⊢;omega
def ZdQ (Γ0 Γ:Gh) (_:Hp):Prop:=Qg Γ0 Γ
def ZpV (Γ0:Gh) (m:Nat):Prop:=(∀ k,m≤k→Γ0 k=none)∧∀ k,k<m→∃ r,Γ0 k=some r
def JJ (nt:Nat) (F A:Nat→Prop) (Γ0:Gh) (I:Nat→Prop) (w:World) (st' : St) (a' : Act) (w' : World):Prop:=
 ∃ I' Γ',ZdQ Γ0 Γ' st'.hp∧ZS I I' w w'∧(∀ b,I' b→I b∨F b)∧Fr F w w'∧Sim nt F A I' Γ' (JD st'.nx) st'.sl st'.hp a' w'
theorem JJ.refl {I:Nat→Prop} {Γ:Gh} {st:St} {a:Act} {w:World} (h:Sim nt F A I Γ (JD st.nx) st.sl st.hp a w) (hc:ZdQ Γ0 Γ st.hp):JJ nt F A Γ0 I w st a w:=
 ⟨I,Γ,hc,ZS.refl I w,fun _ h=>.inl h,Fr.refl F w,h⟩
theorem JJ.step {I I1:Nat→Prop} {w w1 w' : World} {aa : St} {a' : Act} (hk:ZS I I1 w w1) (hs:∀ b,I1 b→I b∨F b) (hf:Fr F w w1) (h:JJ nt F A Γ0 I1 w1 aa a' w'):JJ nt F A Γ0 I w aa a' w':=by
 obtain⟨I',Γ',h1,h2,h3,h4,h5⟩:=h;refine⟨I',Γ',h1,hk.trans h2,fun b hb=>?_,hf.trans h4,h5⟩;rcases h3 b hb with h6 | h6
 ·exact hs b h6
 ·exact .inr h6
theorem WK.cpre {Γ Γ' : Gh} {hp hp' : Hp} (hg:Qg Γ Γ') (hc:ZdQ Γ0 Γ hp):ZdQ Γ0 Γ' hp':=fun k r hk=>hg k r (hc k r hk)
theorem ZuB {I:Nat→Prop} {Γ:Gh} {U:Nat→Prop} {sl:Sl} {hp:Hp} {a:Act} {w:World} (h:Sim nt F A I Γ U sl hp a w) {ops:Array Oper} {o:Oper} {g:Option (Nat×Bool)} (hg:Zpz ops.toList o.guard=some g)
  {b:Bool} (hw:ZY sl g=some b):Region.wanted o (yielded ops a.tmps)=b:=by
 unfold Region.wanted;cases ho:o.guard with
 | none=>
  rw[ho] at hg;simp only[Zpz] at hg;cases hg;simp only[ZY] at hw;cases hw;rfl
 | some q=>
  rw[ho] at hg;simp only[Zpz] at hg;obtain⟨g',h1,hg⟩:=Za hg;obtain⟨t,h2,hg⟩:=Za hg;cases hg;simp only[ZY] at hw;have hr:=h.slots t;have ad : ops[q.1]?=some g':=by simpa using h1
  have hy:yielded ops a.tmps q.1=match a.tmps[t]? with
   | some (.bool b)=>some b
   | _=>none:=by unfold yielded;rw[ad];simp only[Option.bind_some,h2];rfl
  unfold ZeS at hw;split at hw
  ·rename_i b' aa;cases hw;rw[aa] at hr;have h3:=ZdG hr;have h4:a.tmps[t]?=some (.bool b'):=by
    cases ht:a.tmps[t]? with
    | none=>simp[ht,undef] at h3
    | some v=>simp[ht] at h3;rw[h3]
   obtain⟨qj,qw⟩:=q;simp only at hy ⊢;rw[hy,h4];cases b' <;> cases qw<;>rfl
  ·rename_i aa;cases hw;rw[aa] at hr;obtain⟨us,h3,h4⟩:=hr;have h5:∀ b',a.tmps[t]?≠some (.bool b'):=by
    intro b' ab;simp[ab] at h3
   obtain⟨qj,qw⟩:=q;simp only at hy ⊢;rw[hy];cases ht:a.tmps[t]? with
   | none=>rfl
   | some v=>
    cases v<;>first | rfl | (exfalso;exact h5 _ ht)
  ·cases hw
theorem Zl9 {Γ:Gh} {w:World} {I:Nat→Prop}:Rep Γ w I (.tup []) undef:=⟨#[],rfl,trivial⟩
theorem ZjC {ops:List Oper} {o:Oper} {co:CO} (h:Zm8 P nt ops o=some co):Zpz ops o.guard=some co.guard∧VJ (cOp P o.type o.op)=co.op∧QM nt o.dst=true∧co.dst=o.dst:=by
 unfold Zm8 at h;obtain⟨g,h1,h⟩:=Za h;split at h
 ·cases h;exact⟨h1,rfl,by assumption,rfl⟩
 ·cases h
theorem Xe {base:Nat} {dst:Option Nat} {sl:Sl} {hp:Hp} {e:Option Ze} {r:Sl×Hp} (h:Yk base dst sl hp e=some r):∃ ce,e=some ce∧QP base (base+64) ce.eff.adds=true∧r=ce.on dst sl hp:=by
 unfold Yk at h;obtain⟨ce,h1,h⟩:=Za h;split at h
 ·cases h;exact⟨ce,h1,by assumption,rfl⟩
 ·cases h
theorem Zy8 {ops:Array Oper} {i:Nat} {o:Oper} {aa:List Oper} (h:ops.toList.drop i=o :: aa):ops[i]?=some o∧ops.toList.drop (i+1)=aa∧i<ops.size:=by
 have h1:(ops.toList.drop i)[0]?=some o:=by rw[h];rfl
 rw[KR] at h1;have h2:ops[i]?=some o:=by simpa using h1
 refine⟨h2,?_,(KE.1 h2).1⟩;rw[← Kao,h];rfl
theorem ZvV {C:Orc} {M:Zm} (hC:Qf P C) {ops:Array Oper} {Q:Exit→Act→World→Prop} {nx m:Nat} :
  ∀ (os:List CO) (i:Nat) {sl:Sl} {hp:Hp} {r:Sl×Hp} {I:Nat→Prop} {Γ:Gh} {a:Act} {w:World},i≤ops.size→Qr (Zm8 P nt ops.toList) (ops.toList.drop i)=some (Zl5 os)→ZgW C M nx i os sl hp=some r →
   Sim nt F A I Γ (JD (nx+64*i)) sl hp a w→ZdQ Γ0 Γ hp→(∀ a' w',JJ nt F A Γ0 I w { sl:=r.1,hp:=r.2,nx:=nx+64*ops.size,m:=m } a' w'→Q .normal a' w') →
   wpOps P ops Q (List.range' i (ops.size-i)) a w:=by
 intro os
 induction os with
 | nil=>
  intro i sl hp r I Γ a w ag aa hv hS hc hQ;have hd:ops.toList.drop i=[]:=by
   cases hd:ops.toList.drop i with
   | nil=>rfl
   | cons o rest=>
    rw[hd] at aa;simp only[Qr] at aa;obtain⟨_,_,aa⟩:=Za aa;obtain⟨_,_,aa⟩:=Za aa;simp[Zl5] at aa
  have hi:ops.size≤i:=by
   have:=List.drop_eq_nil_iff.1 hd;simpa using this
  have ak:i=ops.size:=by omega
  subst ak;rw[show ops.size-ops.size=0 by omega];simp only[ZgW] at hv;cases hv;simp only[List.range',wpOps];exact hQ a w (JJ.refl (st := { sl:=sl,hp:=hp,nx:=nx+64*ops.size,m:=m }) hS hc)
 | cons co os ih=>
  intro i sl hp r I Γ a w ag aa hv hS hc hQ;cases hd:ops.toList.drop i with
  | nil=>rw[hd] at aa;simp[Qr,Zl5] at aa
  | cons o rest=>
   obtain⟨ho,ad,an⟩:=Zy8 hd;rw[hd] at aa;simp only[Qr] at aa;obtain⟨ao,h1,aa⟩:=Za aa;obtain⟨ap,h2,aa⟩:=Za aa;simp only[Zl5,Option.some.injEq,List.cons.injEq] at aa;obtain⟨rfl,rfl⟩:=aa;obtain⟨hg,ai,ae,aj⟩:=ZjC h1;dsimp only at hg ai aj;rw[show ops.size-i=(ops.size-(i+1))+1 by omega,List.range'_succ];simp only[ZgW] at hv;obtain⟨b,hw,hv⟩:=Za hv;have af:=ZuB hS hg hw;simp only[wpOps,ho,af];rw[aj] at hv;cases b with
   | true=>
    simp only[Kn] at hv ⊢;obtain⟨q,hq,hv⟩:=Za hv;obtain⟨ce,al,am,rfl⟩:=Xe hq;refine .inl (ZzX hC hS ai (Zl7 _) ae am al _ _ fun u w' hp'=>?_);obtain⟨I1,Γ1,b1,b2,b3,b4,b5⟩:=hp';refine ih (i+1) (by omega) (by rw[ad];exact h2) hv (by rw[show nx+64*(i+1)=nx+64*i+64 by omega];exact b5.more Zl8) (WK.cpre b1 hc) fun a' ah ab=>hQ a' ah (ab.step b2 b3 b4)
   | false=>
    simp only[Kc,Ko] at hv ⊢;obtain⟨I1,Γ1,b1,b2,b3,b4,b5⟩:=hS.pure (U':=JD (nx+64*(i+1))) (v:=.tup []) (u:=undef) (dst:=o.dst) (ZAm (by omega)) Zl9 ae;exact ih (i+1) (by omega) (by rw[ad];exact h2) hv b5 (WK.cpre b1 hc) fun a' ah ab=>hQ a' ah (ab.step b2 b3 b4)
theorem Zk5 {hp:Hp} {ids:List Nat}:∀ {l:List Nat} {i:Nat},i∈l→i∉ZgX hp ids l→Zdf hp ids i=true
 | [],i,h,_=>by simp at h
 | x :: r,i,h,hn=>by
  simp only[ZgX] at hn;cases hl:Zdf hp ids x with
  | true=>
   rw[hl] at hn;simp only[Kn] at hn;rcases Kf.1 h with rfl | h
   ·exact hl
   ·exact Zk5 h hn
  | false=>
   rw[hl] at hn;simp only[Kc,Ko,Kf,not_or] at hn;rcases Kf.1 h with rfl | h
   ·exact absurd rfl hn.1
   ·exact Zk5 h hn.2
def Zca (_:Hp) (ids:List Nat) (Γ:Gh):Gh:=fun k=>match ids[k]? with
 | some id=>Γ id
 | none=>none
theorem ZrG {hp:Hp} {ids:List Nat} {Γ:Gh} {id:Nat} (h:Zdf hp ids id=true):Zca hp ids Γ (VH ids id)=Γ id:=by
 simp only[Zdf,Kd,KI,Ku] at h;simp only[Zca,(Zkx h.1).2]
section
variable {I:Nat→Prop} {Γ:Gh} {U:Nat→Prop} {sl:Sl} {hp:Hp} {a:Act} {w:World}
theorem ZpW (ids:List Nat) {x:AV} {v:Value} (h:Rep Γ w I x v):Rep (Zca hp ids Γ) w I (ZdP hp ids x) v:=by
 refine ZnQ (fun id aa r hr=>?_) (ZS.refl I w) (ZtJ (bad:=ZgX hp ids (Zx x)) h);obtain⟨h1,h2⟩:=Zq9 _ _ id aa;rw[ZrG (Zk5 h1 h2)];exact hr
theorem Zy9 {ids:List Nat} {k id:Nat} (hk:ids[k]?=some id) {o:Zn} (hl:lkp hp id=some o) (ho:Yz Γ w I F A id o):Yz (Zca hp ids Γ) w I F A k (ZgY hp ids o):=by
 have hG:Zca hp ids Γ k=Γ id:=by simp[Zca,hk]
 cases o with
 | box cs=>
  obtain⟨b,cur,e,h1,h2,h3,h4,h5,ab⟩:=ho;refine⟨b,cur,e,by rw[hG,h1],h2,h3,h4,?_,(ab.map (Ui _)).map (Zbg _)⟩;have h6:Zy (Xx Γ w I) (cs.map (ZR (ZgX hp ids (Ji (.box cs))))) cur.toList:=h5.map_left fun _ _ h=>ZlE h;refine Zdz (fun ae aa r hr=>?_) (ZS.refl I w) h6;obtain⟨y,hy,aa⟩:=Kq.1 aa;obtain⟨x,hx,rfl⟩:=Lk.1 hy;obtain⟨h7,h8⟩:=Zjh _ x ae aa;rw[ZrG (Zk5 (Kq.2 ⟨x,hx,h7⟩) h8)];exact hr
 | row sz xs ex fz=>
  obtain⟨ad,n,c,h1,h2⟩:=ho;exact⟨ad,n,c,by rw[hG,h1],h2⟩
 | gone=>
  obtain⟨r,h1⟩:=ho;exact⟨r,by rw[hG,h1]⟩
 | tree sz ns xs lk=>
  obtain⟨ad,n,c,h1,h2,h3⟩:=ho;refine⟨ad,n,c,by rw[hG,h1],?_,X8.lose (X8.kill (Γ':=Γ) h3 (fun _ _ _ h=>h) fun _ _=>rfl)⟩;rw[UC,UD];exact h2
theorem ZvW (h:Sim nt F A I Γ U sl hp a w) {ids:List Nat} (af:ids.Nodup) (ae:∀ id∈ids,∃ r,Γ id=some r) :
  JW (Zca hp ids Γ) w I F A (Wh 0 ((Zc8 hp ids).map (ZgY hp ids))) ∧
  (∀ i j o o' b,lkp (Wh 0 ((Zc8 hp ids).map (ZgY hp ids))) i=some o→lkp (Wh 0 ((Zc8 hp ids).map (ZgY hp ids))) j=some o'→Blk (Zca hp ids Γ) w i o b→Blk (Zca hp ids Γ) w j o' b→i=j) ∧
  (∀ id,ids.length≤id→Zca hp ids Γ id=none):=by
 have get:∀ k o,lkp (Wh 0 ((Zc8 hp ids).map (ZgY hp ids))) k=some o→∃ id,ids[k]?=some id∧o=ZgY hp ids (Zul (lkp hp id)):=by
  intro k o hk;rw[Jk] at hk;simp only[Nat.zero_le,Kn,Nat.sub_zero,Lj,ZoQ,Option.map_map] at hk;cases hi:ids[k]? with
  | none=>rw[hi] at hk;cases hk
  | some id=>
   rw[hi] at hk;simp only[KV,Option.some.injEq,Function.comp_apply] at hk;exact⟨id,rfl,hk.symm⟩
 refine⟨fun k o hk=>?_,fun i j o o' b hi hj aa ab=>?_,fun id ag=>?_⟩
 ·obtain⟨id,h1,rfl⟩:=get k o hk;cases hl:lkp hp id with
  | none=>
   obtain⟨r,hr⟩:=ae id (Kb h1);exact⟨r,by simp[Zca,h1,hr]⟩
  | some o0=>exact Zy9 h1 hl (h.objs id o0 hl)
 ·obtain⟨id,h1,rfl⟩:=get i o hi;obtain⟨ad,h2,rfl⟩:=get j o' hj;have bk:∀ (k id:Nat) (o0:Zn),Zca hp ids Γ k=Γ id→Blk (Zca hp ids Γ) w k (ZgY hp ids o0) b→Blk Γ w id o0 b:=by
   intro k id o0 e hb;rcases hb with hb | hb | hb
   ·unfold ZgY at hb;rw[Zl0,Zjx,e] at hb;exact .inl hb
   ·cases o0 with
    | box cs=>exact False.elim hb
    | row sz xs ex fz=>exact False.elim hb
    | gone=>exact False.elim hb
    | tree sz ns xs lk=>
     obtain⟨g,p,h5,h6⟩:=hb;rw[UC,UD] at h6;exact .inr (.inl ⟨g,p,e ▸ h5,h6⟩)
   ·cases o0 with
    | box cs=>exact .inr (.inr ((Buf.unmap (Ui _) (Buf.unmap (Zbg _) hb)).ren e.symm))
    | row sz xs ex fz=>exact False.elim hb
    | gone=>exact False.elim hb
    | tree sz ns xs lk=>exact False.elim hb
  cases hl:lkp hp id with
  | none=>rw[hl] at aa;exact aa.isGone.elim
  | some o0=>
   cases hl' : lkp hp ad with
   | none=>rw[hl'] at ab;exact ab.isGone.elim
   | some o1=>
    have e1:Zca hp ids Γ i=Γ id:=by simp[Zca,h1]
    have e2:Zca hp ids Γ j=Γ ad:=by simp[Zca,h2]
    rw[hl] at aa;rw[hl'] at ab;have:=h.inj id ad o0 o1 b hl hl' (bk i id o0 e1 aa) (bk j ad o1 e2 ab);subst this;exact Zra af h1 h2
 ·simp[Zca,KF ag]
theorem Za7 (hp:Hp):∀ (n:Nat) (todo aa:List Nat),∃ t,QQ hp n todo aa=aa++t
 | 0,todo,aa=>⟨[],by simp[QQ]⟩
 | n+1,[],aa=>⟨[],by simp[QQ]⟩
 | n+1,id :: todo,aa=>by
  simp only[QQ];split
  ·exact Za7 hp n todo aa
  ·cases lkp hp id with
   | none=>simp only[Jr];exact Za7 hp n todo aa
   | some o=>
    simp only[Jr];obtain⟨t,ht⟩:=Za7 hp n (todo++Ji o) (aa++[id]);exact⟨id :: t,by rw[ht];simp⟩
theorem ZuC {hp:Hp} {n m:Nat} {todo:List Nat} {k:Nat} (hk:k<m):(QQ hp n todo (List.range m))[k]?=some k:=by
 obtain⟨t,ht⟩:=Za7 hp n todo (List.range m);rw[ht,KJ (by simpa using hk)];simp[hk]
theorem ZrH {n m:Nat} {todo:List Nat} {hp' : Hp} (hc:ZdQ Γ0 Γ hp) (hm:ZpV Γ0 m) :
  ZdQ Γ0 (Zca hp (QQ hp n todo (List.range m)) Γ) hp':=by
 intro k r hk;have aa:k<m:=by
  rcases KN k m with h | h
  ·exact h
  ·rw[hm.1 k h] at hk;cases hk
 simp only[Zca,ZuC (hp:=hp) (n:=n) (todo:=todo) aa];exact hc k r hk
theorem Zg2 (h:Sim nt F A I Γ U sl hp a w) {n m:Nat} {todo:List Nat} (hc:ZdQ Γ0 Γ hp) (hm:ZpV Γ0 m):∀ id∈QQ hp n todo (List.range m),∃ r,Γ id=some r:=by
 intro id aa;rcases (Jj hp n todo (List.range m) Kah).2.2 id aa with h1 | ⟨o,ho⟩
 ·obtain⟨r,hr⟩:=hm.2 id (by simpa using h1);exact⟨r,hc id r hr⟩
 ·have:=h.objs id o ho;cases o with
  | box cs=>obtain⟨b,cur,e,h1,_⟩:=this;exact⟨_,h1⟩
  | row sz xs ex fz=>obtain⟨ad,n,c,h1,_⟩:=this;exact⟨_,h1⟩
  | tree sz ns xs lk=>obtain⟨ad,n,c,h1,_⟩:=this;exact⟨_,h1⟩
  | gone=>exact this
theorem Zk6 {α:Type} (K:List Nat):∀ (l:List (Nat×α)) (t:Nat),lkp (only K l) t=if K.contains t then lkp l t else none
 | [],t=>by simp[only,lkp]
 | (k,v) :: r,t=>by
  simp only[only];by_cases hk:K.contains k=true
  ·rw[Kl hk];simp only[lkp,Zk6 K r];by_cases aa:k=t
   ·subst aa;simp only[Kn,hk]
   ·simp only[Kj aa]
  ·rw[Kj hk,Zk6 K r];simp only[lkp];by_cases aa:k=t
   ·subst aa;simp only[Kn];rw[Kj hk,Kj hk]
   ·simp only[Kj aa]
end
theorem ZxE {I:Nat→Prop} {Γ:Gh} {st:St} {a:Act} {w:World} (h:Sim nt F A I Γ (JD st.nx) st.sl st.hp a w) (hc:ZdQ Γ0 Γ st.hp) (hm:ZpV Γ0 st.m) (K:List Nat) :
  ∃ Γ',Sim nt F A I Γ' (JD (Uz K st).nx) (Uz K st).sl (Uz K st).hp a w∧ZdQ Γ0 Γ' (Uz K st).hp:=by
 have aa:=(Jj st.hp (XF st.hp) (ZrE (only K st.sl)++WB st.hp (List.range st.m)) (List.range st.m) Kah).1;obtain⟨h1,h2,h3⟩:=ZvW h aa (Zg2 h hc hm);refine⟨Zca st.hp (QQ st.hp (XF st.hp) (ZrE (only K st.sl)++WB st.hp (List.range st.m)) (List.range st.m)) Γ,
  { nt:=h.nt,dfr:=h.dfr,slots:=fun t=>?_,objs:=h1,inj:=h2,bound:=h.bound,fresh:=h.fresh,own:=h.own,names:=fun id ab=>h3 id (Nat.le_of_not_lt ab),glob:=h.glob },ZrH hc hm⟩
 show Rep _ w I (gs (ZlB _ (only K st.sl)) t) _;simp only[gs,Zg4,Zk6];have hs:=h.slots t;simp only[gs] at hs;by_cases hK:K.contains t=true
 ·rw[Kl hK];cases hl:lkp st.sl t with
  | none=>exact trivial
  | some v=>rw[hl] at hs;exact ZpW _ hs
 ·rw[Kj hK];exact trivial
end
end Go.Abs
