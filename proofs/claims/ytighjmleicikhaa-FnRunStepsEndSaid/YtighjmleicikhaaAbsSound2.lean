/- Own text. -/
import Derived.Test.YtighjmleicikhaaAbsCall4
import Derived.Orders
set_option linter.unusedVariables false
set_option linter.unusedSimpArgs false
namespace Go.Abs
open Go
section
variable {P:Program} {nt:Nat} {F A:Nat→Prop} {Γ0:Gh}
def WG (n:Nat):Nat→Prop:=fun id=>id<n
theorem Zex (n:Nat):QB (WG n) n:=fun id h _ hu=>by simp only[WG] at hu;omega
theorem Zey {n:Nat}:∀ id,Wl (WG n) n id→WG (n+64) id:=fun id h=>by
 simp only[Wl,WG] at h ⊢;omega
theorem ZqE {n m:Nat} (h:n≤m):∀ id,WG n id→WG m id:=fun id hu=>by simp only[WG] at hu ⊢;omega
def J7 (Γ0 Γ:Gh) (_:Hp):Prop:=ZX Γ0 Γ
def Zg2 (Γ0:Gh) (m:Nat):Prop:=(∀ k,m≤k→Γ0 k=none)∧∀ k,k<m→∃ r,Γ0 k=some r
def WL (nt:Nat) (F A:Nat→Prop) (Γ0:Gh) (I:Nat→Prop) (w:World) (st' : St) (a' : Act) (w' : World):Prop:=
 ∃ I' Γ',J7 Γ0 Γ' st'.hp∧ZC I I' w w'∧(∀ b,I' b→I b∨F b)∧Fr F w w'∧Sim nt F A I' Γ' (WG st'.nx) st'.sl st'.hp a' w'
theorem WL.refl {I:Nat→Prop} {Γ:Gh} {st:St} {a:Act} {w:World} (h:Sim nt F A I Γ (WG st.nx) st.sl st.hp a w) (hc:J7 Γ0 Γ st.hp):WL nt F A Γ0 I w st a w:=
 ⟨I,Γ,hc,ZC.refl I w,fun _ h=>.inl h,Fr.refl F w,h⟩
theorem WL.step {I I1:Nat→Prop} {w w1 w' : World} {aa : St} {a' : Act} (hk:ZC I I1 w w1) (hs:∀ b,I1 b→I b∨F b) (hf:Fr F w w1) (h:WL nt F A Γ0 I1 w1 aa a' w'):WL nt F A Γ0 I w aa a' w':=by
 obtain⟨I',Γ',h1,h2,h3,h4,h5⟩:=h;refine⟨I',Γ',h1,hk.trans h2,fun b hb=>?_,hf.trans h4,h5⟩;rcases h3 b hb with h6 | h6
 ·exact hs b h6
 ·exact .inr h6
theorem Y9.cpre {Γ Γ' : Gh} {hp hp' : Hp} (hg:ZX Γ Γ') (hc:J7 Γ0 Γ hp):J7 Γ0 Γ' hp':=fun k r hk=>hg k r (hc k r hk)
theorem Zlh {I:Nat→Prop} {Γ:Gh} {U:Nat→Prop} {sl:Sl} {hp:Hp} {a:Act} {w:World} (h:Sim nt F A I Γ U sl hp a w) {ops:Array Oper} {o:Oper} {g:Option (Nat×Bool)} (hg:ZgH ops.toList o.guard=some g)
  {b:Bool} (hw:ZJ sl g=some b):Region.wanted o (yielded ops a.tmps)=b:=by
 unfold Region.wanted;cases ho:o.guard with
 | none=>
  rw[ho] at hg;simp only[ZgH] at hg;cases hg;simp only[ZJ] at hw;cases hw;rfl
 | some q=>
  rw[ho] at hg;simp only[ZgH] at hg;obtain⟨g',h1,hg⟩:=Za hg;obtain⟨t,h2,hg⟩:=Za hg;cases hg;simp only[ZJ] at hw;have hr:=h.slots t;have ad : ops[q.1]?=some g':=by simpa using h1
  have hy:yielded ops a.tmps q.1=match a.tmps[t]? with
   | some (.bool b)=>some b
   | _=>none:=by unfold yielded;rw[ad];simp only[Option.bind_some,h2];rfl
  unfold ZaB at hw;split at hw
  ·rename_i b' aa;cases hw;rw[aa] at hr;have h3:=J2 hr;have h4:a.tmps[t]?=some (.bool b'):=by
    cases ht:a.tmps[t]? with
    | none=>simp[ht,undef] at h3
    | some v=>simp[ht] at h3;rw[h3]
   obtain⟨qj,qw⟩:=q;simp only at hy ⊢;rw[hy,h4];cases b' <;> cases qw<;>rfl
  ·rename_i aa;cases hw;rw[aa] at hr;obtain⟨us,h3,h4⟩:=hr;have h5:∀ b',a.tmps[t]?≠some (.bool b'):=by
    intro b' ab;simp[ab] at h3
   obtain⟨qj,qw⟩:=q;simp only at hy ⊢;rw[hy];cases ht:a.tmps[t]? with
   | none=>rfl
   | some v=>
    cases v<;>first | rfl | (exfalso;exact h5 _ ht)
  ·cases hw
theorem Zez {Γ:Gh} {w:World} {I:Nat→Prop}:Rep Γ w I (.tup []) undef:=⟨#[],rfl,trivial⟩
theorem ZcZ {ops:List Oper} {o:Oper} {co:CO} (h:Zfc P nt ops o=some co):ZgH ops o.guard=some co.guard∧Yz (cOp P o.type o.op)=co.op∧Qo nt o.dst=true∧co.dst=o.dst:=by
 unfold Zfc at h;obtain⟨g,h1,h⟩:=Za h;split at h
 ·cases h;exact⟨h1,rfl,by assumption,rfl⟩
 ·cases h
theorem QO {base:Nat} {dst:Option Nat} {sl:Sl} {hp:Hp} {e:Option Zb} {r:Sl×Hp} (h:XC base dst sl hp e=some r):∃ ce,e=some ce∧Qv base (base+64) ce.eff.adds=true∧r=ce.on dst sl hp:=by
 unfold XC at h;obtain⟨ce,h1,h⟩:=Za h;split at h
 ·cases h;exact⟨ce,h1,by assumption,rfl⟩
 ·cases h
theorem Zpt {ops:Array Oper} {i:Nat} {o:Oper} {aa:List Oper} (h:ops.toList.drop i=o :: aa):ops[i]?=some o∧ops.toList.drop (i+1)=aa∧i<ops.size:=by
 have h1:(ops.toList.drop i)[0]?=some o:=by rw[h];rfl
 rw[KZ] at h1;have h2:ops[i]?=some o:=by simpa using h1
 refine⟨h2,?_,(KD.1 h2).1⟩;rw[← List.drop_drop,h];rfl
theorem ZmD {C:Orc} {M:Zg} (hC:Qh P C) {ops:Array Oper} {Q:Exit→Act→World→Prop} {nx m:Nat} :
  ∀ (os:List CO) (i:Nat) {sl:Sl} {hp:Hp} {r:Sl×Hp} {I:Nat→Prop} {Γ:Gh} {a:Act} {w:World},i≤ops.size→Qb (Zfc P nt ops.toList) (ops.toList.drop i)=some (Zev os)→Zbp C M nx i os sl hp=some r →
   Sim nt F A I Γ (WG (nx+64*i)) sl hp a w→J7 Γ0 Γ hp→(∀ a' w',WL nt F A Γ0 I w { sl:=r.1,hp:=r.2,nx:=nx+64*ops.size,m:=m } a' w'→Q .normal a' w') →
   wpOps P ops Q (List.range' i (ops.size-i)) a w:=by
 intro os
 induction os with
 | nil=>
  intro i sl hp r I Γ a w ag aa hv hS hc hQ;have hd:ops.toList.drop i=[]:=by
   cases hd:ops.toList.drop i with
   | nil=>rfl
   | cons o rest=>
    rw[hd] at aa;simp only[Qb] at aa;obtain⟨_,_,aa⟩:=Za aa;obtain⟨_,_,aa⟩:=Za aa;simp[Zev] at aa
  have hi:ops.size≤i:=by
   have:=List.drop_eq_nil_iff.1 hd;simpa using this
  have ak:i=ops.size:=by omega
  subst ak;rw[show ops.size-ops.size=0 by omega];simp only[Zbp] at hv;cases hv;simp only[List.range',wpOps];exact hQ a w (WL.refl (st := { sl:=sl,hp:=hp,nx:=nx+64*ops.size,m:=m }) hS hc)
 | cons co os ih=>
  intro i sl hp r I Γ a w ag aa hv hS hc hQ;cases hd:ops.toList.drop i with
  | nil=>rw[hd] at aa;simp[Qb,Zev] at aa
  | cons o rest=>
   obtain⟨ho,ad,an⟩:=Zpt hd;rw[hd] at aa;simp only[Qb] at aa;obtain⟨ao,h1,aa⟩:=Za aa;obtain⟨ap,h2,aa⟩:=Za aa;simp only[Zev,Option.some.injEq,List.cons.injEq] at aa;obtain⟨rfl,rfl⟩:=aa;obtain⟨hg,ai,ae,aj⟩:=ZcZ h1;dsimp only at hg ai aj;rw[show ops.size-i=(ops.size-(i+1))+1 by omega,List.range'_succ];simp only[Zbp] at hv;obtain⟨b,hw,hv⟩:=Za hv;have af:=Zlh hS hg hw;simp only[wpOps,ho,af];rw[aj] at hv;cases b with
   | true=>
    simp only[Kh] at hv ⊢;obtain⟨q,hq,hv⟩:=Za hv;obtain⟨ce,al,am,rfl⟩:=QO hq;refine .inl (Zqd hC hS ai (Zex _) ae am al _ _ fun u w' hp'=>?_);obtain⟨I1,Γ1,b1,b2,b3,b4,b5⟩:=hp';refine ih (i+1) (by omega) (by rw[ad];exact h2) hv (by rw[show nx+64*(i+1)=nx+64*i+64 by omega];exact b5.more Zey) (Y9.cpre b1 hc) fun a' ah ab=>hQ a' ah (ab.step b2 b3 b4)
   | false=>
    simp only[Ka,Kf] at hv ⊢;obtain⟨I1,Γ1,b1,b2,b3,b4,b5⟩:=hS.pure (U':=WG (nx+64*(i+1))) (v:=.tup []) (u:=undef) (dst:=o.dst) (ZqE (by omega)) Zez ae;exact ih (i+1) (by omega) (by rw[ad];exact h2) hv b5 (Y9.cpre b1 hc) fun a' ah ab=>hQ a' ah (ab.step b2 b3 b4)
theorem ZdO {hp:Hp} {ids:List Nat}:∀ {l:List Nat} {i:Nat},i∈l→i∉Zbq hp ids l→JN hp ids i=true
 | [],i,h,_=>by simp at h
 | x :: r,i,h,hn=>by
  simp only[Zbq] at hn;cases hl:JN hp ids x with
  | true=>
   rw[hl] at hn;simp only[Kh] at hn;rcases Ke.1 h with rfl | h
   ·exact hl
   ·exact ZdO h hn
  | false=>
   rw[hl] at hn;simp only[Ka,Kf,Ke,not_or] at hn;rcases Ke.1 h with rfl | h
   ·exact absurd rfl hn.1
   ·exact ZdO h hn.2
def U8 (_:Hp) (ids:List Nat) (Γ:Gh):Gh:=fun k=>match ids[k]? with
 | some id=>Γ id
 | none=>none
theorem ZiY {hp:Hp} {ids:List Nat} {Γ:Gh} {id:Nat} (h:JN hp ids id=true):U8 hp ids Γ (Yx ids id)=Γ id:=by
 simp only[JN,Kb,KK,Kk] at h;simp only[U8,(Zdf h.1).2]
section
variable {I:Nat→Prop} {Γ:Gh} {U:Nat→Prop} {sl:Sl} {hp:Hp} {a:Act} {w:World}
theorem Zg3 (ids:List Nat) {x:AV} {v:Value} (h:Rep Γ w I x v):Rep (U8 hp ids Γ) w I (J6 hp ids x) v:=by
 refine ZfD (fun id aa r hr=>?_) (ZC.refl I w) (Zkq (bad:=Zbq hp ids (Zo x)) h);obtain⟨h1,h2⟩:=Ziq _ _ id aa;rw[ZiY (ZdO h1 h2)];exact hr
theorem Zpu {ids:List Nat} {k id:Nat} (hk:ids[k]?=some id) {o:Zh} (hl:lkp hp id=some o) (ho:XO Γ w I F A id o):XO (U8 hp ids Γ) w I F A k (Zbr hp ids o):=by
 have hG:U8 hp ids Γ k=Γ id:=by simp[U8,hk]
 cases o with
 | box cs=>
  obtain⟨b,cur,e,h1,h2,h3,h4,h5,ab⟩:=ho;refine⟨b,cur,e,by rw[hG,h1],h2,h3,h4,?_,(ab.map (VN _)).map (UK _)⟩;have h6:Zr (Q1 Γ w I) (cs.map (ZB (Zbq hp ids (V8 (.box cs))))) cur.toList:=h5.map_left fun _ _ h=>Zea h;refine JW (fun ae aa r hr=>?_) (ZC.refl I w) h6;obtain⟨y,hy,aa⟩:=Kn.1 aa;obtain⟨x,hx,rfl⟩:=KU.1 hy;obtain⟨h7,h8⟩:=ZcG _ x ae aa;rw[ZiY (ZdO (Kn.2 ⟨x,hx,h7⟩) h8)];exact hr
 | row sz xs ex fz=>
  obtain⟨ad,n,c,h1,h2⟩:=ho;exact⟨ad,n,c,by rw[hG,h1],h2⟩
 | gone=>
  obtain⟨r,h1⟩:=ho;exact⟨r,by rw[hG,h1]⟩
 | tree sz ns xs lk=>
  obtain⟨ad,n,c,h1,h2,h3⟩:=ho;refine⟨ad,n,c,by rw[hG,h1],?_,Xv.lose (Xv.kill (Γ':=Γ) h3 (fun _ _ _ h=>h) fun _ _=>rfl)⟩;rw[V0,V1];exact h2
theorem ZmE (h:Sim nt F A I Γ U sl hp a w) {ids:List Nat} (af:ids.Nodup) (ae:∀ id∈ids,∃ r,Γ id=some r) :
  WO (U8 hp ids Γ) w I F A (YP 0 ((JI hp ids).map (Zbr hp ids))) ∧
  (∀ i j o o' b,lkp (YP 0 ((JI hp ids).map (Zbr hp ids))) i=some o→lkp (YP 0 ((JI hp ids).map (Zbr hp ids))) j=some o'→Blk (U8 hp ids Γ) w i o b→Blk (U8 hp ids Γ) w j o' b→i=j) ∧
  (∀ id,ids.length≤id→U8 hp ids Γ id=none):=by
 have get:∀ k o,lkp (YP 0 ((JI hp ids).map (Zbr hp ids))) k=some o→∃ id,ids[k]?=some id∧o=Zbr hp ids (Zk0 (lkp hp id)):=by
  intro k o hk;rw[Wb] at hk;simp only[LA,Kh,Nat.sub_zero,LB,ZfU,Option.map_map] at hk;cases hi:ids[k]? with
  | none=>rw[hi] at hk;cases hk
  | some id=>
   rw[hi] at hk;simp only[KR,Option.some.injEq,Function.comp_apply] at hk;exact⟨id,rfl,hk.symm⟩
 refine⟨fun k o hk=>?_,fun i j o o' b hi hj aa ab=>?_,fun id ag=>?_⟩
 ·obtain⟨id,h1,rfl⟩:=get k o hk;cases hl:lkp hp id with
  | none=>
   obtain⟨r,hr⟩:=ae id (Kr h1);exact⟨r,by simp[U8,h1,hr]⟩
  | some o0=>exact Zpu h1 hl (h.objs id o0 hl)
 ·obtain⟨id,h1,rfl⟩:=get i o hi;obtain⟨ad,h2,rfl⟩:=get j o' hj;have bk:∀ (k id:Nat) (o0:Zh),U8 hp ids Γ k=Γ id→Blk (U8 hp ids Γ) w k (Zbr hp ids o0) b→Blk Γ w id o0 b:=by
   intro k id o0 e hb;rcases hb with hb | hb | hb
   ·unfold Zbr at hb;rw[Zep,ZcV,e] at hb;exact .inl hb
   ·cases o0 with
    | box cs=>exact False.elim hb
    | row sz xs ex fz=>exact False.elim hb
    | gone=>exact False.elim hb
    | tree sz ns xs lk=>
     obtain⟨g,p,h5,h6⟩:=hb;rw[V0,V1] at h6;exact .inr (.inl ⟨g,p,e ▸ h5,h6⟩)
   ·cases o0 with
    | box cs=>exact .inr (.inr ((Buf.unmap (VN _) (Buf.unmap (UK _) hb)).ren e.symm))
    | row sz xs ex fz=>exact False.elim hb
    | gone=>exact False.elim hb
    | tree sz ns xs lk=>exact False.elim hb
  cases hl:lkp hp id with
  | none=>rw[hl] at aa;exact aa.isGone.elim
  | some o0=>
   cases hl' : lkp hp ad with
   | none=>rw[hl'] at ab;exact ab.isGone.elim
   | some o1=>
    have e1:U8 hp ids Γ i=Γ id:=by simp[U8,h1]
    have e2:U8 hp ids Γ j=Γ ad:=by simp[U8,h2]
    rw[hl] at aa;rw[hl'] at ab;have:=h.inj id ad o0 o1 b hl hl' (bk i id o0 e1 aa) (bk j ad o1 e2 ab);subst this;exact Zir af h1 h2
 ·simp[U8,KL ag]
theorem UA (hp:Hp):∀ (n:Nat) (todo aa:List Nat),∃ t,Qz hp n todo aa=aa++t
 | 0,todo,aa=>⟨[],by simp[Qz]⟩
 | n+1,[],aa=>⟨[],by simp[Qz]⟩
 | n+1,id :: todo,aa=>by
  simp only[Qz];split
  ·exact UA hp n todo aa
  ·cases lkp hp id with
   | none=>simp only[Wi];exact UA hp n todo aa
   | some o=>
    simp only[Wi];obtain⟨t,ht⟩:=UA hp n (todo++V8 o) (aa++[id]);exact⟨id :: t,by rw[ht];simp⟩
theorem Zli {hp:Hp} {n m:Nat} {todo:List Nat} {k:Nat} (hk:k<m):(Qz hp n todo (List.range m))[k]?=some k:=by
 obtain⟨t,ht⟩:=UA hp n todo (List.range m);rw[ht,Kq (by simpa using hk)];simp[hk]
theorem ZiZ {n m:Nat} {todo:List Nat} {hp' : Hp} (hc:J7 Γ0 Γ hp) (hm:Zg2 Γ0 m) :
  J7 Γ0 (U8 hp (Qz hp n todo (List.range m)) Γ) hp':=by
 intro k r hk;have aa:k<m:=by
  rcases KN k m with h | h
  ·exact h
  ·rw[hm.1 k h] at hk;cases hk
 simp only[U8,Zli (hp:=hp) (n:=n) (todo:=todo) aa];exact hc k r hk
theorem Zbv (h:Sim nt F A I Γ U sl hp a w) {n m:Nat} {todo:List Nat} (hc:J7 Γ0 Γ hp) (hm:Zg2 Γ0 m):∀ id∈Qz hp n todo (List.range m),∃ r,Γ id=some r:=by
 intro id aa;rcases (Wa hp n todo (List.range m) LP).2.2 id aa with h1 | ⟨o,ho⟩
 ·obtain⟨r,hr⟩:=hm.2 id (by simpa using h1);exact⟨r,hc id r hr⟩
 ·have:=h.objs id o ho;cases o with
  | box cs=>obtain⟨b,cur,e,h1,_⟩:=this;exact⟨_,h1⟩
  | row sz xs ex fz=>obtain⟨ad,n,c,h1,_⟩:=this;exact⟨_,h1⟩
  | tree sz ns xs lk=>obtain⟨ad,n,c,h1,_⟩:=this;exact⟨_,h1⟩
  | gone=>exact this
theorem ZdP {α:Type} (K:List Nat):∀ (l:List (Nat×α)) (t:Nat),lkp (only K l) t=if K.contains t then lkp l t else none
 | [],t=>by simp[only,lkp]
 | (k,v) :: r,t=>by
  simp only[only];by_cases hk:K.contains k=true
  ·rw[Kv hk];simp only[lkp,ZdP K r];by_cases aa:k=t
   ·subst aa;simp only[Kh,hk]
   ·simp only[Kp aa]
  ·rw[Kp hk,ZdP K r];simp only[lkp];by_cases aa:k=t
   ·subst aa;simp only[Kh];rw[Kp hk,Kp hk]
   ·simp only[Kp aa]
end
theorem Zor {I:Nat→Prop} {Γ:Gh} {st:St} {a:Act} {w:World} (h:Sim nt F A I Γ (WG st.nx) st.sl st.hp a w) (hc:J7 Γ0 Γ st.hp) (hm:Zg2 Γ0 st.m) (K:List Nat) :
  ∃ Γ',Sim nt F A I Γ' (WG (VX K st).nx) (VX K st).sl (VX K st).hp a w∧J7 Γ0 Γ' (VX K st).hp:=by
 have aa:=(Wa st.hp (Q7 st.hp) (ZiW (only K st.sl)++Y7 st.hp (List.range st.m)) (List.range st.m) LP).1;obtain⟨h1,h2,h3⟩:=ZmE h aa (Zbv h hc hm);refine⟨U8 st.hp (Qz st.hp (Q7 st.hp) (ZiW (only K st.sl)++Y7 st.hp (List.range st.m)) (List.range st.m)) Γ,
  { nt:=h.nt,dfr:=h.dfr,slots:=fun t=>?_,objs:=h1,inj:=h2,bound:=h.bound,fresh:=h.fresh,own:=h.own,names:=fun id ab=>h3 id (Nat.le_of_not_lt ab),glob:=h.glob },ZiZ hc hm⟩
 show Rep _ w I (gs (Zd7 _ (only K st.sl)) t) _;simp only[gs,Zbx,ZdP];have hs:=h.slots t;simp only[gs] at hs;by_cases hK:K.contains t=true
 ·rw[Kv hK];cases hl:lkp st.sl t with
  | none=>exact trivial
  | some v=>rw[hl] at hs;exact Zg3 _ hs
 ·rw[Kp hK];exact trivial
end
end Go.Abs
