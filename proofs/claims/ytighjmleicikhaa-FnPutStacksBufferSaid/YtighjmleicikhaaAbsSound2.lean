/- Own text. -/
import Derived.Test.YtighjmleicikhaaAbsCall4
import Derived.Orders
set_option linter.unusedVariables false
set_option linter.unusedSimpArgs false
namespace Go.Abs
open Go
section
variable {P:Program} {nt:Nat} {F A:Nat→Prop} {Γ0:Gh}
def Vc (n:Nat):Nat→Prop:=fun id=>id<n
theorem ZcB (n:Nat):Qi (Vc n) n:=fun id h _ hu=>by simp only[Vc] at hu;omega
theorem ZcC {n:Nat}:∀ id,Y2 (Vc n) n id→Vc (n+64) id:=fun id h=>by
 simp only[Y2,Vc] at h ⊢;omega
theorem ZnY {n m:Nat} (h:n≤m):∀ id,Vc n id→Vc m id:=fun id hu=>by simp only[Vc] at hu ⊢;omega
def Uw (Γ0 Γ:Gh) (_:Hp):Prop:=ZN Γ0 Γ
def Ze2 (Γ0:Gh) (m:Nat):Prop:=(∀ k,m≤k→Γ0 k=none)∧∀ k,k<m→∃ r,Γ0 k=some r
def Vh (nt:Nat) (F A:Nat→Prop) (Γ0:Gh) (I:Nat→Prop) (w:World) (st' : St) (a' : Act) (w' : World):Prop:=
 ∃ I' Γ',Uw Γ0 Γ' st'.hp∧Zw I I' w w'∧(∀ b,I' b→I b∨F b)∧Fr F w w'∧Sim nt F A I' Γ' (Vc st'.nx) st'.sl st'.hp a' w'
theorem Vh.refl {I:Nat→Prop} {Γ:Gh} {st:St} {a:Act} {w:World} (h:Sim nt F A I Γ (Vc st.nx) st.sl st.hp a w) (hc:Uw Γ0 Γ st.hp):Vh nt F A Γ0 I w st a w:=
 ⟨I,Γ,hc,Zw.refl I w,fun _ h=>.inl h,Fr.refl F w,h⟩
theorem Vh.step {I I1:Nat→Prop} {w w1 w' : World} {aa : St} {a' : Act} (hk:Zw I I1 w w1) (hs:∀ b,I1 b→I b∨F b) (hf:Fr F w w1) (h:Vh nt F A Γ0 I1 w1 aa a' w'):Vh nt F A Γ0 I w aa a' w':=by
 obtain⟨I',Γ',h1,h2,h3,h4,h5⟩:=h;refine⟨I',Γ',h1,hk.trans h2,fun b hb=>?_,hf.trans h4,h5⟩;rcases h3 b hb with h6 | h6
 ·exact hs b h6
 ·exact .inr h6
theorem Yc.cpre {Γ Γ' : Gh} {hp hp' : Hp} (hg:ZN Γ Γ') (hc:Uw Γ0 Γ hp):Uw Γ0 Γ' hp':=fun k r hk=>hg k r (hc k r hk)
theorem ZiQ {I:Nat→Prop} {Γ:Gh} {U:Nat→Prop} {sl:Sl} {hp:Hp} {a:Act} {w:World} (h:Sim nt F A I Γ U sl hp a w) {ops:Array Oper} {o:Oper} {g:Option (Nat×Bool)} (hg:ZeG ops.toList o.guard=some g)
  {b:Bool} (hw:ZC sl g=some b):Region.wanted o (yielded ops a.tmps)=b:=by
 unfold Region.wanted;cases ho:o.guard with
 | none=>
  rw[ho] at hg;simp only[ZeG] at hg;cases hg;simp only[ZC] at hw;cases hw;rfl
 | some q=>
  rw[ho] at hg;simp only[ZeG] at hg;obtain⟨g',h1,hg⟩:=Za hg;obtain⟨t,h2,hg⟩:=Za hg;cases hg;simp only[ZC] at hw;have hr:=h.slots t;have ad : ops[q.1]?=some g':=by simpa using h1
  have hy:yielded ops a.tmps q.1=match a.tmps[t]? with
   | some (.bool b)=>some b
   | _=>none:=by unfold yielded;rw[ad];simp only[Option.bind_some,h2];rfl
  unfold UW at hw;split at hw
  ·rename_i b' aa;cases hw;rw[aa] at hr;have h3:=Uq hr;have h4:a.tmps[t]?=some (.bool b'):=by
    cases ht:a.tmps[t]? with
    | none=>simp[ht,undef] at h3
    | some v=>simp[ht] at h3;rw[h3]
   obtain⟨qj,qw⟩:=q;simp only at hy ⊢;rw[hy,h4];cases b' <;> cases qw<;>rfl
  ·rename_i aa;cases hw;rw[aa] at hr;obtain⟨us,h3,h4⟩:=hr;have h5:∀ b',a.tmps[t]?≠some (.bool b'):=by
    intro b' ab;simp[ab] at h3
   obtain⟨qj,qw⟩:=q;simp only at hy ⊢;rw[hy];cases ht:a.tmps[t]? with
   | none=>rfl
   | some v=>
    cases v<;>first | rfl | (exfalso;exact h5 _ ht)
  ·cases hw
theorem ZcD {Γ:Gh} {w:World} {I:Nat→Prop}:Rep Γ w I (.tup []) undef:=⟨#[],rfl,trivial⟩
theorem Zbb {ops:List Oper} {o:Oper} {co:CO} (h:Zdi P nt ops o=some co):ZeG ops o.guard=some co.guard∧XK (cOp P o.type o.op)=co.op∧Qa nt o.dst=true∧co.dst=o.dst:=by
 unfold Zdi at h;obtain⟨g,h1,h⟩:=Za h;split at h
 ·cases h;exact⟨h1,rfl,by assumption,rfl⟩
 ·cases h
theorem Qu {base:Nat} {dst:Option Nat} {sl:Sl} {hp:Hp} {e:Option Zb} {r:Sl×Hp} (h:Q3 base dst sl hp e=some r):∃ ce,e=some ce∧Qf base (base+64) ce.eff.adds=true∧r=ce.on dst sl hp:=by
 unfold Q3 at h;obtain⟨ce,h1,h⟩:=Za h;split at h
 ·cases h;exact⟨ce,h1,by assumption,rfl⟩
 ·cases h
theorem Zm1 {ops:Array Oper} {i:Nat} {o:Oper} {aa:List Oper} (h:ops.toList.drop i=o :: aa):ops[i]?=some o∧ops.toList.drop (i+1)=aa∧i<ops.size:=by
 have h1:(ops.toList.drop i)[0]?=some o:=by rw[h];rfl
 rw[K1] at h1;have h2:ops[i]?=some o:=by simpa using h1
 refine⟨h2,?_,(Ks.1 h2).1⟩;rw[← List.drop_drop,h];rfl
theorem Zj1 {C:Orc} {M:Zf} (hC:Z4 P C) {ops:Array Oper} {Q:Exit→Act→World→Prop} {nx m:Nat} :
  ∀ (os:List CO) (i:Nat) {sl:Sl} {hp:Hp} {r:Sl×Hp} {I:Nat→Prop} {Γ:Gh} {a:Act} {w:World},i≤ops.size→ZY (Zdi P nt ops.toList) (ops.toList.drop i)=some (Zcz os)→JG C M nx i os sl hp=some r →
   Sim nt F A I Γ (Vc (nx+64*i)) sl hp a w→Uw Γ0 Γ hp→(∀ a' w',Vh nt F A Γ0 I w { sl:=r.1,hp:=r.2,nx:=nx+64*ops.size,m:=m } a' w'→Q .normal a' w') →
   wpOps P ops Q (List.range' i (ops.size-i)) a w:=by
 intro os
 induction os with
 | nil=>
  intro i sl hp r I Γ a w ag aa hv hS hc hQ;have hd:ops.toList.drop i=[]:=by
   cases hd:ops.toList.drop i with
   | nil=>rfl
   | cons o rest=>
    rw[hd] at aa;simp only[ZY] at aa;obtain⟨_,_,aa⟩:=Za aa;obtain⟨_,_,aa⟩:=Za aa;simp[Zcz] at aa
  have hi:ops.size≤i:=by
   have:=List.drop_eq_nil_iff.1 hd;simpa using this
  have ak:i=ops.size:=by omega
  subst ak;rw[show ops.size-ops.size=0 by omega];simp only[JG] at hv;cases hv;simp only[List.range',wpOps];exact hQ a w (Vh.refl (st := { sl:=sl,hp:=hp,nx:=nx+64*ops.size,m:=m }) hS hc)
 | cons co os ih=>
  intro i sl hp r I Γ a w ag aa hv hS hc hQ;cases hd:ops.toList.drop i with
  | nil=>rw[hd] at aa;simp[ZY,Zcz] at aa
  | cons o rest=>
   obtain⟨ho,ad,an⟩:=Zm1 hd;rw[hd] at aa;simp only[ZY] at aa;obtain⟨ao,h1,aa⟩:=Za aa;obtain⟨ap,h2,aa⟩:=Za aa;simp only[Zcz,Option.some.injEq,List.cons.injEq] at aa;obtain⟨rfl,rfl⟩:=aa;obtain⟨hg,ai,ae,aj⟩:=Zbb h1;dsimp only at hg ai aj;rw[show ops.size-i=(ops.size-(i+1))+1 by omega,List.range'_succ];simp only[JG] at hv;obtain⟨b,hw,hv⟩:=Za hv;have af:=ZiQ hS hg hw;simp only[wpOps,ho,af];rw[aj] at hv;cases b with
   | true=>
    simp only[Ki] at hv ⊢;obtain⟨q,hq,hv⟩:=Za hv;obtain⟨ce,al,am,rfl⟩:=Qu hq;refine .inl (Znv hC hS ai (ZcB _) ae am al _ _ fun u w' hp'=>?_);obtain⟨I1,Γ1,b1,b2,b3,b4,b5⟩:=hp';refine ih (i+1) (by omega) (by rw[ad];exact h2) hv (by rw[show nx+64*(i+1)=nx+64*i+64 by omega];exact b5.more ZcC) (Yc.cpre b1 hc) fun a' ah ab=>hQ a' ah (ab.step b2 b3 b4)
   | false=>
    simp only[Ka,Kh] at hv ⊢;obtain⟨I1,Γ1,b1,b2,b3,b4,b5⟩:=hS.pure (U':=Vc (nx+64*(i+1))) (v:=.tup []) (u:=undef) (dst:=o.dst) (ZnY (by omega)) ZcD ae;exact ih (i+1) (by omega) (by rw[ad];exact h2) hv b5 (Yc.cpre b1 hc) fun a' ah ab=>hQ a' ah (ab.step b2 b3 b4)
theorem ZbV {hp:Hp} {ids:List Nat}:∀ {l:List Nat} {i:Nat},i∈l→i∉JH hp ids l→Ua hp ids i=true
 | [],i,h,_=>by simp at h
 | x :: r,i,h,hn=>by
  simp only[JH] at hn;cases hl:Ua hp ids x with
  | true=>
   rw[hl] at hn;simp only[Ki] at hn;rcases Ke.1 h with rfl | h
   ·exact hl
   ·exact ZbV h hn
  | false=>
   rw[hl] at hn;simp only[Ka,Kh,Ke,not_or] at hn;rcases Ke.1 h with rfl | h
   ·exact absurd rfl hn.1
   ·exact ZbV h hn.2
def WC (_:Hp) (ids:List Nat) (Γ:Gh):Gh:=fun k=>match ids[k]? with
 | some id=>Γ id
 | none=>none
theorem Zgx {hp:Hp} {ids:List Nat} {Γ:Gh} {id:Nat} (h:Ua hp ids id=true):WC hp ids Γ (XI ids id)=Γ id:=by
 simp only[Ua,Kc,KG,KB] at h;simp only[WC,(Zbn h.1).2]
section
variable {I:Nat→Prop} {Γ:Gh} {U:Nat→Prop} {sl:Sl} {hp:Hp} {a:Act} {w:World}
theorem Ze3 (ids:List Nat) {x:AV} {v:Value} (h:Rep Γ w I x v):Rep (WC hp ids Γ) w I (Uv hp ids x) v:=by
 refine ZdF (fun id aa r hr=>?_) (Zw.refl I w) (ZhY (bad:=JH hp ids (Zj x)) h);obtain⟨h1,h2⟩:=ZfZ _ _ id aa;rw[Zgx (ZbV h1 h2)];exact hr
theorem Zm2 {ids:List Nat} {k id:Nat} (hk:ids[k]?=some id) {o:Zg} (hl:lkp hp id=some o) (ho:Xa Γ w I F A id o):Xa (WC hp ids Γ) w I F A k (JI hp ids o):=by
 have hG:WC hp ids Γ k=Γ id:=by simp[WC,hk]
 cases o with
 | box cs=>
  obtain⟨b,cur,e,h1,h2,h3,h4,h5,ab⟩:=ho;refine⟨b,cur,e,by rw[hG,h1],h2,h3,h4,?_,(ab.map (YC _)).map (Wg _)⟩;have h6:Zl (QB Γ w I) (cs.map (Zv (JH hp ids (YQ (.box cs))))) cur.toList:=h5.map_left fun _ _ h=>Zcc h;refine Uk (fun ae aa r hr=>?_) (Zw.refl I w) h6;obtain⟨y,hy,aa⟩:=Kk.1 aa;obtain⟨x,hx,rfl⟩:=K9.1 hy;obtain⟨h7,h8⟩:=ZaQ _ x ae aa;rw[Zgx (ZbV (Kk.2 ⟨x,hx,h7⟩) h8)];exact hr
 | row sz xs ex fz=>
  obtain⟨ad,n,c,h1,h2⟩:=ho;exact⟨ad,n,c,by rw[hG,h1],h2⟩
 | gone=>
  obtain⟨r,h1⟩:=ho;exact⟨r,by rw[hG,h1]⟩
 | tree sz ns xs lk=>
  obtain⟨ad,n,c,h1,h2,h3⟩:=ho;refine⟨ad,n,c,by rw[hG,h1],?_,QV.lose (QV.kill (Γ':=Γ) h3 (fun _ _ _ h=>h) fun _ _=>rfl)⟩;rw[YL,YM];exact h2
theorem Zj2 (h:Sim nt F A I Γ U sl hp a w) {ids:List Nat} (af:ids.Nodup) (ae:∀ id∈ids,∃ r,Γ id=some r) :
  Vk (WC hp ids Γ) w I F A (XP 0 ((W5 hp ids).map (JI hp ids))) ∧
  (∀ i j o o' b,lkp (XP 0 ((W5 hp ids).map (JI hp ids))) i=some o→lkp (XP 0 ((W5 hp ids).map (JI hp ids))) j=some o'→Blk (WC hp ids Γ) w i o b→Blk (WC hp ids Γ) w j o' b→i=j) ∧
  (∀ id,ids.length≤id→WC hp ids Γ id=none):=by
 have get:∀ k o,lkp (XP 0 ((W5 hp ids).map (JI hp ids))) k=some o→∃ id,ids[k]?=some id∧o=JI hp ids (Ziy (lkp hp id)):=by
  intro k o hk;rw[Ym] at hk;simp only[Nat.zero_le,Ki,LF,Lj,ZdU,Option.map_map] at hk;cases hi:ids[k]? with
  | none=>rw[hi] at hk;cases hk
  | some id=>
   rw[hi] at hk;simp only[KK,Option.some.injEq,Function.comp_apply] at hk;exact⟨id,rfl,hk.symm⟩
 refine⟨fun k o hk=>?_,fun i j o o' b hi hj aa ab=>?_,fun id ag=>?_⟩
 ·obtain⟨id,h1,rfl⟩:=get k o hk;cases hl:lkp hp id with
  | none=>
   obtain⟨r,hr⟩:=ae id (Kl h1);exact⟨r,by simp[WC,h1,hr]⟩
  | some o0=>exact Zm2 h1 hl (h.objs id o0 hl)
 ·obtain⟨id,h1,rfl⟩:=get i o hi;obtain⟨ad,h2,rfl⟩:=get j o' hj;have bk:∀ (k id:Nat) (o0:Zg),WC hp ids Γ k=Γ id→Blk (WC hp ids Γ) w k (JI hp ids o0) b→Blk Γ w id o0 b:=by
   intro k id o0 e hb;rcases hb with hb | hb | hb
   ·unfold JI at hb;rw[Zct,Za7,e] at hb;exact .inl hb
   ·cases o0 with
    | box cs=>exact False.elim hb
    | row sz xs ex fz=>exact False.elim hb
    | gone=>exact False.elim hb
    | tree sz ns xs lk=>
     obtain⟨g,p,h5,h6⟩:=hb;rw[YL,YM] at h6;exact .inr (.inl ⟨g,p,e ▸ h5,h6⟩)
   ·cases o0 with
    | box cs=>exact .inr (.inr ((Buf.unmap (YC _) (Buf.unmap (Wg _) hb)).ren e.symm))
    | row sz xs ex fz=>exact False.elim hb
    | gone=>exact False.elim hb
    | tree sz ns xs lk=>exact False.elim hb
  cases hl:lkp hp id with
  | none=>rw[hl] at aa;exact aa.isGone.elim
  | some o0=>
   cases hl' : lkp hp ad with
   | none=>rw[hl'] at ab;exact ab.isGone.elim
   | some o1=>
    have e1:WC hp ids Γ i=Γ id:=by simp[WC,h1]
    have e2:WC hp ids Γ j=Γ ad:=by simp[WC,h2]
    rw[hl] at aa;rw[hl'] at ab;have:=h.inj id ad o0 o1 b hl hl' (bk i id o0 e1 aa) (bk j ad o1 e2 ab);subst this;exact Zf0 af h1 h2
 ·simp[WC,KH ag]
theorem Wb (hp:Hp):∀ (n:Nat) (todo aa:List Nat),∃ t,Qh hp n todo aa=aa++t
 | 0,todo,aa=>⟨[],by simp[Qh]⟩
 | n+1,[],aa=>⟨[],by simp[Qh]⟩
 | n+1,id :: todo,aa=>by
  simp only[Qh];split
  ·exact Wb hp n todo aa
  ·cases lkp hp id with
   | none=>simp only[YZ];exact Wb hp n todo aa
   | some o=>
    simp only[YZ];obtain⟨t,ht⟩:=Wb hp n (todo++YQ o) (aa++[id]);exact⟨id :: t,by rw[ht];simp⟩
theorem ZiR {hp:Hp} {n m:Nat} {todo:List Nat} {k:Nat} (hk:k<m):(Qh hp n todo (List.range m))[k]?=some k:=by
 obtain⟨t,ht⟩:=Wb hp n todo (List.range m);rw[ht,Kq (by simpa using hk)];simp[hk]
theorem Zgy {n m:Nat} {todo:List Nat} {hp' : Hp} (hc:Uw Γ0 Γ hp) (hm:Ze2 Γ0 m) :
  Uw Γ0 (WC hp (Qh hp n todo (List.range m)) Γ) hp':=by
 intro k r hk;have aa:k<m:=by
  rcases KN k m with h | h
  ·exact h
  ·rw[hm.1 k h] at hk;cases hk
 simp only[WC,ZiR (hp:=hp) (n:=n) (todo:=todo) aa];exact hc k r hk
theorem JM (h:Sim nt F A I Γ U sl hp a w) {n m:Nat} {todo:List Nat} (hc:Uw Γ0 Γ hp) (hm:Ze2 Γ0 m):∀ id∈Qh hp n todo (List.range m),∃ r,Γ id=some r:=by
 intro id aa;rcases (YS hp n todo (List.range m) LP).2.2 id aa with h1 | ⟨o,ho⟩
 ·obtain⟨r,hr⟩:=hm.2 id (by simpa using h1);exact⟨r,hc id r hr⟩
 ·have:=h.objs id o ho;cases o with
  | box cs=>obtain⟨b,cur,e,h1,_⟩:=this;exact⟨_,h1⟩
  | row sz xs ex fz=>obtain⟨ad,n,c,h1,_⟩:=this;exact⟨_,h1⟩
  | tree sz ns xs lk=>obtain⟨ad,n,c,h1,_⟩:=this;exact⟨_,h1⟩
  | gone=>exact this
theorem ZbW {α:Type} (K:List Nat):∀ (l:List (Nat×α)) (t:Nat),lkp (only K l) t=if K.contains t then lkp l t else none
 | [],t=>by simp[only,lkp]
 | (k,v) :: r,t=>by
  simp only[only];by_cases hk:K.contains k=true
  ·rw[Kw hk];simp only[lkp,ZbW K r];by_cases aa:k=t
   ·subst aa;simp only[Ki,hk]
   ·simp only[Kn aa]
  ·rw[Kn hk,ZbW K r];simp only[lkp];by_cases aa:k=t
   ·subst aa;simp only[Ki];rw[Kn hk,Kn hk]
   ·simp only[Kn aa]
end
theorem ZlW {I:Nat→Prop} {Γ:Gh} {st:St} {a:Act} {w:World} (h:Sim nt F A I Γ (Vc st.nx) st.sl st.hp a w) (hc:Uw Γ0 Γ st.hp) (hm:Ze2 Γ0 st.m) (K:List Nat) :
  ∃ Γ',Sim nt F A I Γ' (Vc (YI K st).nx) (YI K st).sl (YI K st).hp a w∧Uw Γ0 Γ' (YI K st).hp:=by
 have aa:=(YS st.hp (QH st.hp) (Zgu (only K st.sl)++Ya st.hp (List.range st.m)) (List.range st.m) LP).1;obtain⟨h1,h2,h3⟩:=Zj2 h aa (JM h hc hm);refine⟨WC st.hp (Qh st.hp (QH st.hp) (Zgu (only K st.sl)++Ya st.hp (List.range st.m)) (List.range st.m)) Γ,
  { nt:=h.nt,dfr:=h.dfr,slots:=fun t=>?_,objs:=h1,inj:=h2,bound:=h.bound,fresh:=h.fresh,own:=h.own,names:=fun id ab=>h3 id (Nat.le_of_not_lt ab),glob:=h.glob },Zgy hc hm⟩
 show Rep _ w I (gs (Zb9 _ (only K st.sl)) t) _;simp only[gs,JO,ZbW];have hs:=h.slots t;simp only[gs] at hs;by_cases hK:K.contains t=true
 ·rw[Kw hK];cases hl:lkp st.sl t with
  | none=>exact trivial
  | some v=>rw[hl] at hs;exact Ze3 _ hs
 ·rw[Kn hK];exact trivial
end
end Go.Abs
