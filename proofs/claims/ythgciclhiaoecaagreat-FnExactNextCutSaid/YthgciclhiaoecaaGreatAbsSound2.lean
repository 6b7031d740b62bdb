/- Own text. -/
import Derived.Test.YthgciclhiaoecaaGreatAbsCall4
import Derived.Orders
set_option linter.unusedVariables false
set_option linter.unusedSimpArgs false
namespace Go.Abs
open Go
section
variable {P:Program} {nt:Nat} {F A:Nat→Prop} {Γ0:Gh}
def Zad (n:Nat):Nat→Prop:=fun id=>id<n
theorem ZnJ (n:Nat):Xd (Zad n) n:=fun id h _ hu=>by simp only[Zad] at hu;omega
theorem ZnK {n:Nat}:∀ id,Zab (Zad n) n id→Zad (n+64) id:=fun id h=>by
 simp only[Zab,Zad] at h ⊢;omega
theorem ZCM {n m:Nat} (h:n≤m):∀ id,Zad n id→Zad m id:=fun id hu=>by simp only[Zad] at hu ⊢;omega
def ZeN (Γ0 Γ:Gh) (_:Hp):Prop:=Qj Γ0 Γ
def ZrQ (Γ0:Gh) (m:Nat):Prop:=(∀ k,m≤k→Γ0 k=none)∧∀ k,k<m→∃ r,Γ0 k=some r
def Zaj (nt:Nat) (F A:Nat→Prop) (Γ0:Gh) (I:Nat→Prop) (w:World) (st' : St) (a' : Act) (w' : World):Prop:=
 ∃ I' Γ',ZeN Γ0 Γ' st'.hp∧ZT I I' w w'∧(∀ b,I' b→I b∨F b)∧Fr F w w'∧Sim nt F A I' Γ' (Zad st'.nx) st'.sl st'.hp a' w'
theorem Zaj.refl {I:Nat→Prop} {Γ:Gh} {st:St} {a:Act} {w:World} (h:Sim nt F A I Γ (Zad st.nx) st.sl st.hp a w) (hc:ZeN Γ0 Γ st.hp):Zaj nt F A Γ0 I w st a w:=
 ⟨I,Γ,hc,ZT.refl I w,fun _ h=>.inl h,Fr.refl F w,h⟩
theorem Zaj.step {I I1:Nat→Prop} {w w1 w' : World} {aa : St} {a' : Act} (hk:ZT I I1 w w1) (hs:∀ b,I1 b→I b∨F b) (hf:Fr F w w1) (h:Zaj nt F A Γ0 I1 w1 aa a' w'):Zaj nt F A Γ0 I w aa a' w':=by
 obtain⟨I',Γ',h1,h2,h3,h4,h5⟩:=h;refine⟨I',Γ',h1,hk.trans h2,fun b hb=>?_,hf.trans h4,h5⟩;rcases h3 b hb with h6 | h6
 ·exact hs b h6
 ·exact .inr h6
theorem W5.cpre {Γ Γ' : Gh} {hp hp' : Hp} (hg:Qj Γ Γ') (hc:ZeN Γ0 Γ hp):ZeN Γ0 Γ' hp':=fun k r hk=>hg k r (hc k r hk)
theorem ZwK {I:Nat→Prop} {Γ:Gh} {U:Nat→Prop} {sl:Sl} {hp:Hp} {a:Act} {w:World} (h:Sim nt F A I Γ U sl hp a w) {ops:Array Oper} {o:Oper} {g:Option (Nat×Bool)} (hg:Zru ops.toList o.guard=some g)
  {b:Bool} (hw:ZY sl g=some b):Region.wanted o (yielded ops a.tmps)=b:=by
 unfold Region.wanted;cases ho:o.guard with
 | none=>
  rw[ho] at hg;simp only[Zru] at hg;cases hg;simp only[ZY] at hw;cases hw;rfl
 | some q=>
  rw[ho] at hg;simp only[Zru] at hg;obtain⟨g',h1,hg⟩:=Za hg;obtain⟨t,h2,hg⟩:=Za hg;cases hg;simp only[ZY] at hw;have hr:=h.slots t;have ad : ops[q.1]?=some g':=by simpa using h1
  have hy:yielded ops a.tmps q.1=match a.tmps[t]? with
   | some (.bool b)=>some b
   | _=>none:=by unfold yielded;rw[ad];simp only[Option.bind_some,h2];rfl
  unfold ZfM at hw;split at hw
  ·rename_i b' aa;cases hw;rw[aa] at hr;have h3:=ZeF hr;have h4:a.tmps[t]?=some (.bool b'):=by
    cases ht:a.tmps[t]? with
    | none=>simp[ht,undef] at h3
    | some v=>simp[ht] at h3;rw[h3]
   obtain⟨qj,qw⟩:=q;simp only at hy ⊢;rw[hy,h4];cases b' <;> cases qw<;>rfl
  ·rename_i aa;cases hw;rw[aa] at hr;obtain⟨us,h3,h4⟩:=hr;have h5:∀ b',a.tmps[t]?≠some (.bool b'):=by
    intro b' ab;simp[ab] at h3
   obtain⟨qj,qw⟩:=q;simp only at hy ⊢;rw[hy];cases ht:a.tmps[t]? with
   | none=>rfl
   | some v=>
    cases v<;>first | rfl | (exfalso;exact h5 _ ht)
  ·cases hw
theorem ZnL {Γ:Gh} {w:World} {I:Nat→Prop}:Rep Γ w I (.tup []) undef:=⟨#[],rfl,trivial⟩
theorem ZkY {ops:List Oper} {o:Oper} {co:CO} (h:ZoM P nt ops o=some co):Zru ops o.guard=some co.guard∧V6 (cOp P o.type o.op)=co.op∧QT nt o.dst=true∧co.dst=o.dst:=by
 unfold ZoM at h;obtain⟨g,h1,h⟩:=Za h;split at h
 ·cases h;exact⟨h1,rfl,by assumption,rfl⟩
 ·cases h
theorem Xo {base:Nat} {dst:Option Nat} {sl:Sl} {hp:Hp} {e:Option Zf} {r:Sl×Hp} (h:YD base dst sl hp e=some r):∃ ce,e=some ce∧QW base (base+64) ce.eff.adds=true∧r=ce.on dst sl hp:=by
 unfold YD at h;obtain⟨ce,h1,h⟩:=Za h;split at h
 ·cases h;exact⟨ce,h1,by assumption,rfl⟩
 ·cases h
theorem ZBx {ops:Array Oper} {i:Nat} {o:Oper} {aa:List Oper} (h:ops.toList.drop i=o :: aa):ops[i]?=some o∧ops.toList.drop (i+1)=aa∧i<ops.size:=by
 have h1:(ops.toList.drop i)[0]?=some o:=by rw[h];rfl
 rw[Le] at h1;have h2:ops[i]?=some o:=by simpa using h1
 refine⟨h2,?_,(KK.1 h2).1⟩;rw[← KaA,h];rfl
theorem Zx9 {C:Orc} {M:Zm} (hC:Qi P C) {ops:Array Oper} {Q:Exit→Act→World→Prop} {nx m:Nat} :
  ∀ (os:List CO) (i:Nat) {sl:Sl} {hp:Hp} {r:Sl×Hp} {I:Nat→Prop} {Γ:Gh} {a:Act} {w:World},i≤ops.size→Qy (ZoM P nt ops.toList) (ops.toList.drop i)=some (ZnH os)→Zh8 C M nx i os sl hp=some r →
   Sim nt F A I Γ (Zad (nx+64*i)) sl hp a w→ZeN Γ0 Γ hp→(∀ a' w',Zaj nt F A Γ0 I w { sl:=r.1,hp:=r.2,nx:=nx+64*ops.size,m:=m } a' w'→Q .normal a' w') →
   wpOps P ops Q (List.range' i (ops.size-i)) a w:=by
 intro os
 induction os with
 | nil=>
  intro i sl hp r I Γ a w ag aa hv hS hc hQ;have hd:ops.toList.drop i=[]:=by
   cases hd:ops.toList.drop i with
   | nil=>rfl
   | cons o rest=>
    rw[hd] at aa;simp only[Qy] at aa;obtain⟨_,_,aa⟩:=Za aa;obtain⟨_,_,aa⟩:=Za aa;simp[ZnH] at aa
  have hi:ops.size≤i:=by
   have:=List.drop_eq_nil_iff.1 hd;simpa using this
  have ak:i=ops.size:=by omega
  subst ak;rw[show ops.size-ops.size=0 by omega];simp only[Zh8] at hv;cases hv;simp only[List.range',wpOps];exact hQ a w (Zaj.refl (st := { sl:=sl,hp:=hp,nx:=nx+64*ops.size,m:=m }) hS hc)
 | cons co os ih=>
  intro i sl hp r I Γ a w ag aa hv hS hc hQ;cases hd:ops.toList.drop i with
  | nil=>rw[hd] at aa;simp[Qy,ZnH] at aa
  | cons o rest=>
   obtain⟨ho,ad,an⟩:=ZBx hd;rw[hd] at aa;simp only[Qy] at aa;obtain⟨ao,h1,aa⟩:=Za aa;obtain⟨ap,h2,aa⟩:=Za aa;simp only[ZnH,Option.some.injEq,List.cons.injEq] at aa;obtain⟨rfl,rfl⟩:=aa;obtain⟨hg,ai,ae,aj⟩:=ZkY h1;dsimp only at hg ai aj;rw[show ops.size-i=(ops.size-(i+1))+1 by omega,List.range'_succ];simp only[Zh8] at hv;obtain⟨b,hw,hv⟩:=Za hv;have af:=ZwK hS hg hw;simp only[wpOps,ho,af];rw[aj] at hv;cases b with
   | true=>
    simp only[Km] at hv ⊢;obtain⟨q,hq,hv⟩:=Za hv;obtain⟨ce,al,am,rfl⟩:=Xo hq;refine .inl (ZCn hC hS ai (ZnJ _) ae am al _ _ fun u w' hp'=>?_);obtain⟨I1,Γ1,b1,b2,b3,b4,b5⟩:=hp';refine ih (i+1) (by omega) (by rw[ad];exact h2) hv (by rw[show nx+64*(i+1)=nx+64*i+64 by omega];exact b5.more ZnK) (W5.cpre b1 hc) fun a' ah ab=>hQ a' ah (ab.step b2 b3 b4)
   | false=>
    simp only[Ka,Kk] at hv ⊢;obtain⟨I1,Γ1,b1,b2,b3,b4,b5⟩:=hS.pure (U':=Zad (nx+64*(i+1))) (v:=.tup []) (u:=undef) (dst:=o.dst) (ZCM (by omega)) ZnL ae;exact ih (i+1) (by omega) (by rw[ad];exact h2) hv b5 (W5.cpre b1 hc) fun a' ah ab=>hQ a' ah (ab.step b2 b3 b4)
theorem Zmw {hp:Hp} {ids:List Nat}:∀ {l:List Nat} {i:Nat},i∈l→i∉Zh9 hp ids l→Zeg hp ids i=true
 | [],i,h,_=>by simp at h
 | x :: r,i,h,hn=>by
  simp only[Zh9] at hn;cases hl:Zeg hp ids x with
  | true=>
   rw[hl] at hn;simp only[Km] at hn;rcases Kf.1 h with rfl | h
   ·exact hl
   ·exact Zmw h hn
  | false=>
   rw[hl] at hn;simp only[Ka,Kk,Kf,not_or] at hn;rcases Kf.1 h with rfl | h
   ·exact absurd rfl hn.1
   ·exact Zmw h hn.2
def Zc7 (_:Hp) (ids:List Nat) (Γ:Gh):Gh:=fun k=>match ids[k]? with
 | some id=>Γ id
 | none=>none
theorem ZtN {hp:Hp} {ids:List Nat} {Γ:Gh} {id:Nat} (h:Zeg hp ids id=true):Zc7 hp ids Γ (V4 ids id)=Γ id:=by
 simp only[Zeg,Kd,KS,Kt] at h;simp only[Zc7,(ZlY h.1).2]
section
variable {I:Nat→Prop} {Γ:Gh} {U:Nat→Prop} {sl:Sl} {hp:Hp} {a:Act} {w:World}
theorem ZrR (ids:List Nat) {x:AV} {v:Value} (h:Rep Γ w I x v):Rep (Zc7 hp ids Γ) w I (ZeM hp ids x) v:=by
 refine Zpu (fun id aa r hr=>?_) (ZT.refl I w) (ZvS (bad:=Zh9 hp ids (Zw x)) h);obtain⟨h1,h2⟩:=Zth _ _ id aa;rw[ZtN (Zmw h1 h2)];exact hr
theorem ZBy {ids:List Nat} {k id:Nat} (hk:ids[k]?=some id) {o:Zn} (hl:lkp hp id=some o) (ho:YR Γ w I F A id o):YR (Zc7 hp ids Γ) w I F A k (Zia hp ids o):=by
 have hG:Zc7 hp ids Γ k=Γ id:=by simp[Zc7,hk]
 cases o with
 | box cs=>
  obtain⟨b,cur,e,h1,h2,h3,h4,h5,ab⟩:=ho;refine⟨b,cur,e,by rw[hG,h1],h2,h3,h4,?_,(ab.map (UO _)).map (Zb2 _)⟩;have h6:Zx (XI Γ w I) (cs.map (ZS (Zh9 hp ids (JR (.box cs))))) cur.toList:=h5.map_left fun _ _ h=>Zne h;refine Zey (fun ae aa r hr=>?_) (ZT.refl I w) h6;obtain⟨y,hy,aa⟩:=Ku.1 aa;obtain⟨x,hx,rfl⟩:=Li.1 hy;obtain⟨h7,h8⟩:=ZkD _ x ae aa;rw[ZtN (Zmw (Ku.2 ⟨x,hx,h7⟩) h8)];exact hr
 | row sz xs ex fz=>
  obtain⟨ad,n,c,h1,h2⟩:=ho;exact⟨ad,n,c,by rw[hG,h1],h2⟩
 | gone=>
  obtain⟨r,h1⟩:=ho;exact⟨r,by rw[hG,h1]⟩
 | tree sz ns xs lk=>
  obtain⟨ad,n,c,h1,h2,h3⟩:=ho;refine⟨ad,n,c,by rw[hG,h1],?_,Yn.lose (Yn.kill (Γ':=Γ) h3 (fun _ _ _ h=>h) fun _ _=>rfl)⟩;rw[U7,U8];exact h2
theorem Zya (h:Sim nt F A I Γ U sl hp a w) {ids:List Nat} (af:ids.Nodup) (ae:∀ id∈ids,∃ r,Γ id=some r) :
  Zaz (Zc7 hp ids Γ) w I F A (WD 0 ((Zd9 hp ids).map (Zia hp ids))) ∧
  (∀ i j o o' b,lkp (WD 0 ((Zd9 hp ids).map (Zia hp ids))) i=some o→lkp (WD 0 ((Zd9 hp ids).map (Zia hp ids))) j=some o'→Blk (Zc7 hp ids Γ) w i o b→Blk (Zc7 hp ids Γ) w j o' b→i=j) ∧
  (∀ id,ids.length≤id→Zc7 hp ids Γ id=none):=by
 have get:∀ k o,lkp (WD 0 ((Zd9 hp ids).map (Zia hp ids))) k=some o→∃ id,ids[k]?=some id∧o=Zia hp ids (Zww (lkp hp id)):=by
  intro k o hk;rw[JT] at hk;simp only[Nat.zero_le,Km,Nat.sub_zero,Ld,ZqM,Option.map_map] at hk;cases hi:ids[k]? with
  | none=>rw[hi] at hk;cases hk
  | some id=>
   rw[hi] at hk;simp only[Lh,Option.some.injEq,Function.comp_apply] at hk;exact⟨id,rfl,hk.symm⟩
 refine⟨fun k o hk=>?_,fun i j o o' b hi hj aa ab=>?_,fun id ag=>?_⟩
 ·obtain⟨id,h1,rfl⟩:=get k o hk;cases hl:lkp hp id with
  | none=>
   obtain⟨r,hr⟩:=ae id (Kb h1);exact⟨r,by simp[Zc7,h1,hr]⟩
  | some o0=>exact ZBy h1 hl (h.objs id o0 hl)
 ·obtain⟨id,h1,rfl⟩:=get i o hi;obtain⟨ad,h2,rfl⟩:=get j o' hj;have bk:∀ (k id:Nat) (o0:Zn),Zc7 hp ids Γ k=Γ id→Blk (Zc7 hp ids Γ) w k (Zia hp ids o0) b→Blk Γ w id o0 b:=by
   intro k id o0 e hb;rcases hb with hb | hb | hb
   ·unfold Zia at hb;rw[Znp,ZkN,e] at hb;exact .inl hb
   ·cases o0 with
    | box cs=>exact False.elim hb
    | row sz xs ex fz=>exact False.elim hb
    | gone=>exact False.elim hb
    | tree sz ns xs lk=>
     obtain⟨g,p,h5,h6⟩:=hb;rw[U7,U8] at h6;exact .inr (.inl ⟨g,p,e ▸ h5,h6⟩)
   ·cases o0 with
    | box cs=>exact .inr (.inr ((Buf.unmap (UO _) (Buf.unmap (Zb2 _) hb)).ren e.symm))
    | row sz xs ex fz=>exact False.elim hb
    | gone=>exact False.elim hb
    | tree sz ns xs lk=>exact False.elim hb
  cases hl:lkp hp id with
  | none=>rw[hl] at aa;exact aa.isGone.elim
  | some o0=>
   cases hl' : lkp hp ad with
   | none=>rw[hl'] at ab;exact ab.isGone.elim
   | some o1=>
    have e1:Zc7 hp ids Γ i=Γ id:=by simp[Zc7,h1]
    have e2:Zc7 hp ids Γ j=Γ ad:=by simp[Zc7,h2]
    rw[hl] at aa;rw[hl'] at ab;have:=h.inj id ad o0 o1 b hl hl' (bk i id o0 e1 aa) (bk j ad o1 e2 ab);subst this;exact Ztj af h1 h2
 ·simp[Zc7,KN ag]
theorem ZbQ (hp:Hp):∀ (n:Nat) (todo aa:List Nat),∃ t,QZ hp n todo aa=aa++t
 | 0,todo,aa=>⟨[],by simp[QZ]⟩
 | n+1,[],aa=>⟨[],by simp[QZ]⟩
 | n+1,id :: todo,aa=>by
  simp only[QZ];split
  ·exact ZbQ hp n todo aa
  ·cases lkp hp id with
   | none=>simp only[J1];exact ZbQ hp n todo aa
   | some o=>
    simp only[J1];obtain⟨t,ht⟩:=ZbQ hp n (todo++JR o) (aa++[id]);exact⟨id :: t,by rw[ht];simp⟩
theorem ZwL {hp:Hp} {n m:Nat} {todo:List Nat} {k:Nat} (hk:k<m):(QZ hp n todo (List.range m))[k]?=some k:=by
 obtain⟨t,ht⟩:=ZbQ hp n todo (List.range m);rw[ht,KT (by simpa using hk)];simp[hk]
theorem ZtO {n m:Nat} {todo:List Nat} {hp' : Hp} (hc:ZeN Γ0 Γ hp) (hm:ZrQ Γ0 m) :
  ZeN Γ0 (Zc7 hp (QZ hp n todo (List.range m)) Γ) hp':=by
 intro k r hk;have aa:k<m:=by
  rcases KY k m with h | h
  ·exact h
  ·rw[hm.1 k h] at hk;cases hk
 simp only[Zc7,ZwL (hp:=hp) (n:=n) (todo:=todo) aa];exact hc k r hk
theorem Zie (h:Sim nt F A I Γ U sl hp a w) {n m:Nat} {todo:List Nat} (hc:ZeN Γ0 Γ hp) (hm:ZrQ Γ0 m):∀ id∈QZ hp n todo (List.range m),∃ r,Γ id=some r:=by
 intro id aa;rcases (JS hp n todo (List.range m) Kat).2.2 id aa with h1 | ⟨o,ho⟩
 ·obtain⟨r,hr⟩:=hm.2 id (by simpa using h1);exact⟨r,hc id r hr⟩
 ·have:=h.objs id o ho;cases o with
  | box cs=>obtain⟨b,cur,e,h1,_⟩:=this;exact⟨_,h1⟩
  | row sz xs ex fz=>obtain⟨ad,n,c,h1,_⟩:=this;exact⟨_,h1⟩
  | tree sz ns xs lk=>obtain⟨ad,n,c,h1,_⟩:=this;exact⟨_,h1⟩
  | gone=>exact this
theorem Zmx {α:Type} (K:List Nat):∀ (l:List (Nat×α)) (t:Nat),lkp (only K l) t=if K.contains t then lkp l t else none
 | [],t=>by simp[only,lkp]
 | (k,v) :: r,t=>by
  simp only[only];by_cases hk:K.contains k=true
  ·rw[Kj hk];simp only[lkp,Zmx K r];by_cases aa:k=t
   ·subst aa;simp only[Km,hk]
   ·simp only[Kg aa]
  ·rw[Kg hk,Zmx K r];simp only[lkp];by_cases aa:k=t
   ·subst aa;simp only[Km];rw[Kg hk,Kg hk]
   ·simp only[Kg aa]
end
theorem Zz3 {I:Nat→Prop} {Γ:Gh} {st:St} {a:Act} {w:World} (h:Sim nt F A I Γ (Zad st.nx) st.sl st.hp a w) (hc:ZeN Γ0 Γ st.hp) (hm:ZrQ Γ0 st.m) (K:List Nat) :
  ∃ Γ',Sim nt F A I Γ' (Zad (U4 K st).nx) (U4 K st).sl (U4 K st).hp a w∧ZeN Γ0 Γ' (U4 K st).hp:=by
 have aa:=(JS st.hp (XQ st.hp) (ZtL (only K st.sl)++WX st.hp (List.range st.m)) (List.range st.m) Kat).1;obtain⟨h1,h2,h3⟩:=Zya h aa (Zie h hc hm);refine⟨Zc7 st.hp (QZ st.hp (XQ st.hp) (ZtL (only K st.sl)++WX st.hp (List.range st.m)) (List.range st.m)) Γ,
  { nt:=h.nt,dfr:=h.dfr,slots:=fun t=>?_,objs:=h1,inj:=h2,bound:=h.bound,fresh:=h.fresh,own:=h.own,names:=fun id ab=>h3 id (Nat.le_of_not_lt ab),glob:=h.glob },ZtO hc hm⟩
 show Rep _ w I (gs (Znb _ (only K st.sl)) t) _;simp only[gs,Zig,Zmx];have hs:=h.slots t;simp only[gs] at hs;by_cases hK:K.contains t=true
 ·rw[Kj hK];cases hl:lkp st.sl t with
  | none=>exact trivial
  | some v=>rw[hl] at hs;exact ZrR _ hs
 ·rw[Kg hK];exact trivial
end
end Go.Abs
