/- Own text. -/
import Derived.Test.YtgpiffflfkoocaaDoorAbsCall4
import Derived.Orders
set_option linter.unusedVariables false
set_option linter.unusedSimpArgs false
namespace Go.Abs
open Go
section
variable {P:Program} {nt:Nat} {F A:Nat→Prop} {Γ0:Gh}
def Ww (n:Nat):Nat→Prop:=fun id=>id<n
theorem ZfL (n:Nat):QQ (Ww n) n:=fun id h _ hu=>by simp only[Ww] at hu;omega
theorem ZfM {n:Nat}:∀ id,Wv (Ww n) n id→Ww (n+64) id:=fun id h=>by
 simp only[Wv,Ww] at h ⊢;omega
theorem Ztd {n m:Nat} (h:n≤m):∀ id,Ww n id→Ww m id:=fun id hu=>by simp only[Ww] at hu ⊢;omega
def Zav (Γ0 Γ:Gh) (_:Hp):Prop:=ZY Γ0 Γ
def ZiW (Γ0:Gh) (m:Nat):Prop:=(∀ k,m≤k→Γ0 k=none)∧∀ k,k<m→∃ r,Γ0 k=some r
def WA (nt:Nat) (F A:Nat→Prop) (Γ0:Gh) (I:Nat→Prop) (w:World) (st' : St) (a' : Act) (w' : World):Prop:=
 ∃ I' Γ',Zav Γ0 Γ' st'.hp∧ZG I I' w w'∧(∀ b,I' b→I b∨F b)∧Fr F w w'∧Sim nt F A I' Γ' (Ww st'.nx) st'.sl st'.hp a' w'
theorem WA.refl {I:Nat→Prop} {Γ:Gh} {st:St} {a:Act} {w:World} (h:Sim nt F A I Γ (Ww st.nx) st.sl st.hp a w) (hc:Zav Γ0 Γ st.hp):WA nt F A Γ0 I w st a w:=
 ⟨I,Γ,hc,ZG.refl I w,fun _ h=>.inl h,Fr.refl F w,h⟩
theorem WA.step {I I1:Nat→Prop} {w w1 w' : World} {aa : St} {a' : Act} (hk:ZG I I1 w w1) (hs:∀ b,I1 b→I b∨F b) (hf:Fr F w w1) (h:WA nt F A Γ0 I1 w1 aa a' w'):WA nt F A Γ0 I w aa a' w':=by
 obtain⟨I',Γ',h1,h2,h3,h4,h5⟩:=h;refine⟨I',Γ',h1,hk.trans h2,fun b hb=>?_,hf.trans h4,h5⟩;rcases h3 b hb with h6 | h6
 ·exact hs b h6
 ·exact .inr h6
theorem Vq.cpre {Γ Γ' : Gh} {hp hp' : Hp} (hg:ZY Γ Γ') (hc:Zav Γ0 Γ hp):Zav Γ0 Γ' hp':=fun k r hk=>hg k r (hc k r hk)
theorem Znn {I:Nat→Prop} {Γ:Gh} {U:Nat→Prop} {sl:Sl} {hp:Hp} {a:Act} {w:World} (h:Sim nt F A I Γ U sl hp a w) {ops:Array Oper} {o:Oper} {g:Option (Nat×Bool)} (hg:Ziy ops.toList o.guard=some g)
  {b:Bool} (hw:ZK sl g=some b):Region.wanted o (yielded ops a.tmps)=b:=by
 unfold Region.wanted;cases ho:o.guard with
 | none=>
  rw[ho] at hg;simp only[Ziy] at hg;cases hg;simp only[ZK] at hw;cases hw;rfl
 | some q=>
  rw[ho] at hg;simp only[Ziy] at hg;obtain⟨g',h1,hg⟩:=Za hg;obtain⟨t,h2,hg⟩:=Za hg;cases hg;simp only[ZK] at hw;have hr:=h.slots t;have ad : ops[q.1]?=some g':=by simpa using h1
  have hy:yielded ops a.tmps q.1=match a.tmps[t]? with
   | some (.bool b)=>some b
   | _=>none:=by unfold yielded;rw[ad];simp only[KF,h2];rfl
  unfold Za4 at hw;split at hw
  ·rename_i b' aa;cases hw;rw[aa] at hr;have h3:=Zao hr;have h4:a.tmps[t]?=some (.bool b'):=by
    cases ht:a.tmps[t]? with
    | none=>simp[ht,undef] at h3
    | some v=>simp[ht] at h3;rw[h3]
   obtain⟨qj,qw⟩:=q;simp only at hy ⊢;rw[hy,h4];cases b' <;> cases qw<;>rfl
  ·rename_i aa;cases hw;rw[aa] at hr;obtain⟨us,h3,h4⟩:=hr;have h5:∀ b',a.tmps[t]?≠some (.bool b'):=by
    intro b' ab;simp[ab] at h3
   obtain⟨qj,qw⟩:=q;simp only at hy ⊢;rw[hy];cases ht:a.tmps[t]? with
   | none=>rfl
   | some v=>
    cases v<;>first | rfl | (exfalso;exact h5 _ ht)
  ·cases hw
theorem ZfN {Γ:Gh} {w:World} {I:Nat→Prop}:Rep Γ w I (.tup []) undef:=⟨#[],rfl,trivial⟩
theorem ZdP {ops:List Oper} {o:Oper} {co:CO} (h:Zgs P nt ops o=some co):Ziy ops o.guard=some co.guard∧YJ (cOp P o.type o.op)=co.op∧Qz nt o.dst=true∧co.dst=o.dst:=by
 unfold Zgs at h;obtain⟨g,h1,h⟩:=Za h;split at h
 ·cases h;exact⟨h1,rfl,by assumption,rfl⟩
 ·cases h
theorem Q0 {base:Nat} {dst:Option Nat} {sl:Sl} {hp:Hp} {e:Option Zb} {r:Sl×Hp} (h:XS base dst sl hp e=some r):∃ ce,e=some ce∧QD base (base+64) ce.eff.adds=true∧r=ce.on dst sl hp:=by
 unfold XS at h;obtain⟨ce,h1,h⟩:=Za h;split at h
 ·cases h;exact⟨ce,h1,by assumption,rfl⟩
 ·cases h
theorem Zsf {ops:Array Oper} {i:Nat} {o:Oper} {aa:List Oper} (h:ops.toList.drop i=o :: aa):ops[i]?=some o∧ops.toList.drop (i+1)=aa∧i<ops.size:=by
 have h1:(ops.toList.drop i)[0]?=some o:=by rw[h];rfl
 rw[KM] at h1;have h2:ops[i]?=some o:=by simpa using h1
 refine⟨h2,?_,(KC.1 h2).1⟩;rw[← L1,h];rfl
theorem ZoF {C:Orc} {M:Zh} (hC:Qf P C) {ops:Array Oper} {Q:Exit→Act→World→Prop} {nx m:Nat} :
  ∀ (os:List CO) (i:Nat) {sl:Sl} {hp:Hp} {r:Sl×Hp} {I:Nat→Prop} {Γ:Gh} {a:Act} {w:World},i≤ops.size→Qe (Zgs P nt ops.toList) (ops.toList.drop i)=some (ZfJ os)→Zb3 C M nx i os sl hp=some r →
   Sim nt F A I Γ (Ww (nx+64*i)) sl hp a w→Zav Γ0 Γ hp→(∀ a' w',WA nt F A Γ0 I w { sl:=r.1,hp:=r.2,nx:=nx+64*ops.size,m:=m } a' w'→Q .normal a' w') →
   wpOps P ops Q (List.range' i (ops.size-i)) a w:=by
 intro os
 induction os with
 | nil=>
  intro i sl hp r I Γ a w ag aa hv hS hc hQ;have hd:ops.toList.drop i=[]:=by
   cases hd:ops.toList.drop i with
   | nil=>rfl
   | cons o rest=>
    rw[hd] at aa;simp only[Qe] at aa;obtain⟨_,_,aa⟩:=Za aa;obtain⟨_,_,aa⟩:=Za aa;simp[ZfJ] at aa
  have hi:ops.size≤i:=by
   have:=List.drop_eq_nil_iff.1 hd;simpa using this
  have ak:i=ops.size:=by omega
  subst ak;rw[show ops.size-ops.size=0 by omega];simp only[Zb3] at hv;cases hv;simp only[List.range',wpOps];exact hQ a w (WA.refl (st := { sl:=sl,hp:=hp,nx:=nx+64*ops.size,m:=m }) hS hc)
 | cons co os ih=>
  intro i sl hp r I Γ a w ag aa hv hS hc hQ;cases hd:ops.toList.drop i with
  | nil=>rw[hd] at aa;simp[Qe,ZfJ] at aa
  | cons o rest=>
   obtain⟨ho,ad,an⟩:=Zsf hd;rw[hd] at aa;simp only[Qe] at aa;obtain⟨ao,h1,aa⟩:=Za aa;obtain⟨ap,h2,aa⟩:=Za aa;simp only[ZfJ,Option.some.injEq,List.cons.injEq] at aa;obtain⟨rfl,rfl⟩:=aa;obtain⟨hg,ai,ae,aj⟩:=ZdP h1;dsimp only at hg ai aj;rw[show ops.size-i=(ops.size-(i+1))+1 by omega,List.range'_succ];simp only[Zb3] at hv;obtain⟨b,hw,hv⟩:=Za hv;have af:=Znn hS hg hw;simp only[wpOps,ho,af];rw[aj] at hv;cases b with
   | true=>
    simp only[Kl] at hv ⊢;obtain⟨q,hq,hv⟩:=Za hv;obtain⟨ce,al,am,rfl⟩:=Q0 hq;refine .inl (ZsM hC hS ai (ZfL _) ae am al _ _ fun u w' hp'=>?_);obtain⟨I1,Γ1,b1,b2,b3,b4,b5⟩:=hp';refine ih (i+1) (by omega) (by rw[ad];exact h2) hv (by rw[show nx+64*(i+1)=nx+64*i+64 by omega];exact b5.more ZfM) (Vq.cpre b1 hc) fun a' ah ab=>hQ a' ah (ab.step b2 b3 b4)
   | false=>
    simp only[Ka,Kn] at hv ⊢;obtain⟨I1,Γ1,b1,b2,b3,b4,b5⟩:=hS.pure (U':=Ww (nx+64*(i+1))) (v:=.tup []) (u:=undef) (dst:=o.dst) (Ztd (by omega)) ZfN ae;exact ih (i+1) (by omega) (by rw[ad];exact h2) hv b5 (Vq.cpre b1 hc) fun a' ah ab=>hQ a' ah (ab.step b2 b3 b4)
theorem ZeJ {hp:Hp} {ids:List Nat}:∀ {l:List Nat} {i:Nat},i∈l→i∉Zb4 hp ids l→JY hp ids i=true
 | [],i,h,_=>by simp at h
 | x :: r,i,h,hn=>by
  simp only[Zb4] at hn;cases hl:JY hp ids x with
  | true=>
   rw[hl] at hn;simp only[Kl] at hn;rcases Ke.1 h with rfl | h
   ·exact hl
   ·exact ZeJ h hn
  | false=>
   rw[hl] at hn;simp only[Ka,Kn,Ke,not_or] at hn;rcases Ke.1 h with rfl | h
   ·exact absurd rfl hn.1
   ·exact ZeJ h hn.2
def Jq (_:Hp) (ids:List Nat) (Γ:Gh):Gh:=fun k=>match ids[k]? with
 | some id=>Γ id
 | none=>none
theorem Zkx {hp:Hp} {ids:List Nat} {Γ:Gh} {id:Nat} (h:JY hp ids id=true):Jq hp ids Γ (YH ids id)=Γ id:=by
 simp only[JY,Kc,KK,Kk] at h;simp only[Jq,(Zeb h.1).2]
section
variable {I:Nat→Prop} {Γ:Gh} {U:Nat→Prop} {sl:Sl} {hp:Hp} {a:Act} {w:World}
theorem ZiX (ids:List Nat) {x:AV} {v:Value} (h:Rep Γ w I x v):Rep (Jq hp ids Γ) w I (Zau hp ids x) v:=by
 refine Zg3 (fun id aa r hr=>?_) (ZG.refl I w) (Zmt (bad:=Zb4 hp ids (Zl x)) h);obtain⟨h1,h2⟩:=Zj0 _ _ id aa;rw[Zkx (ZeJ h1 h2)];exact hr
theorem Zsg {ids:List Nat} {k id:Nat} (hk:ids[k]?=some id) {o:Zf} (hl:lkp hp id=some o) (ho:XX Γ w I F A id o):XX (Jq hp ids Γ) w I F A k (Zb5 hp ids o):=by
 have hG:Jq hp ids Γ k=Γ id:=by simp[Jq,hk]
 cases o with
 | box cs=>
  obtain⟨b,cur,e,h1,h2,h3,h4,h5,ab⟩:=ho;refine⟨b,cur,e,by rw[hG,h1],h2,h3,h4,?_,(ab.map (VU _)).map (UN _)⟩;have h6:Zm (Q3 Γ w I) (cs.map (ZF (Zb4 hp ids (Wf (.box cs))))) cur.toList:=h5.map_left fun _ _ h=>Zfl h;refine Zai (fun ae aa r hr=>?_) (ZG.refl I w) h6;obtain⟨y,hy,aa⟩:=Kq.1 aa;obtain⟨x,hx,rfl⟩:=Le.1 hy;obtain⟨h7,h8⟩:=Zdt _ x ae aa;rw[Zkx (ZeJ (Kq.2 ⟨x,hx,h7⟩) h8)];exact hr
 | row sz xs ex fz=>
  obtain⟨ad,n,c,h1,h2⟩:=ho;exact⟨ad,n,c,by rw[hG,h1],h2⟩
 | gone=>
  obtain⟨r,h1⟩:=ho;exact⟨r,by rw[hG,h1]⟩
 | tree sz ns xs lk=>
  obtain⟨ad,n,c,h1,h2,h3⟩:=ho;refine⟨ad,n,c,by rw[hG,h1],?_,XF.lose (XF.kill (Γ':=Γ) h3 (fun _ _ _ h=>h) fun _ _=>rfl)⟩;rw[V6,V7];exact h2
theorem ZoG (h:Sim nt F A I Γ U sl hp a w) {ids:List Nat} (af:ids.Nodup) (ae:∀ id∈ids,∃ r,Γ id=some r) :
  WG (Jq hp ids Γ) w I F A (YN 0 ((JS hp ids).map (Zb5 hp ids))) ∧
  (∀ i j o o' b,lkp (YN 0 ((JS hp ids).map (Zb5 hp ids))) i=some o→lkp (YN 0 ((JS hp ids).map (Zb5 hp ids))) j=some o'→Blk (Jq hp ids Γ) w i o b→Blk (Jq hp ids Γ) w j o' b→i=j) ∧
  (∀ id,ids.length≤id→Jq hp ids Γ id=none):=by
 have get:∀ k o,lkp (YN 0 ((JS hp ids).map (Zb5 hp ids))) k=some o→∃ id,ids[k]?=some id∧o=Zb5 hp ids (Zm4 (lkp hp id)):=by
  intro k o hk;rw[Vx] at hk;simp only[Kaa,Kl,Nat.sub_zero,Lg,ZhN,Option.map_map] at hk;cases hi:ids[k]? with
  | none=>rw[hi] at hk;cases hk
  | some id=>
   rw[hi] at hk;simp only[KP,Option.some.injEq,Function.comp_apply] at hk;exact⟨id,rfl,hk.symm⟩
 refine⟨fun k o hk=>?_,fun i j o o' b hi hj aa ab=>?_,fun id ag=>?_⟩
 ·obtain⟨id,h1,rfl⟩:=get k o hk;cases hl:lkp hp id with
  | none=>
   obtain⟨r,hr⟩:=ae id (Kp h1);exact⟨r,by simp[Jq,h1,hr]⟩
  | some o0=>exact Zsg h1 hl (h.objs id o0 hl)
 ·obtain⟨id,h1,rfl⟩:=get i o hi;obtain⟨ad,h2,rfl⟩:=get j o' hj;have bk:∀ (k id:Nat) (o0:Zf),Jq hp ids Γ k=Γ id→Blk (Jq hp ids Γ) w k (Zb5 hp ids o0) b→Blk Γ w id o0 b:=by
   intro k id o0 e hb;rcases hb with hb | hb | hb
   ·unfold Zb5 at hb;rw[ZfE,ZdL,e] at hb;exact .inl hb
   ·cases o0 with
    | box cs=>exact False.elim hb
    | row sz xs ex fz=>exact False.elim hb
    | gone=>exact False.elim hb
    | tree sz ns xs lk=>
     obtain⟨g,p,h5,h6⟩:=hb;rw[V6,V7] at h6;exact .inr (.inl ⟨g,p,e ▸ h5,h6⟩)
   ·cases o0 with
    | box cs=>exact .inr (.inr ((Buf.unmap (VU _) (Buf.unmap (UN _) hb)).ren e.symm))
    | row sz xs ex fz=>exact False.elim hb
    | gone=>exact False.elim hb
    | tree sz ns xs lk=>exact False.elim hb
  cases hl:lkp hp id with
  | none=>rw[hl] at aa;exact aa.isGone.elim
  | some o0=>
   cases hl' : lkp hp ad with
   | none=>rw[hl'] at ab;exact ab.isGone.elim
   | some o1=>
    have e1:Jq hp ids Γ i=Γ id:=by simp[Jq,h1]
    have e2:Jq hp ids Γ j=Γ ad:=by simp[Jq,h2]
    rw[hl] at aa;rw[hl'] at ab;have:=h.inj id ad o0 o1 b hl hl' (bk i id o0 e1 aa) (bk j ad o1 e2 ab);subst this;exact Zj1 af h1 h2
 ·simp[Jq,KS ag]
theorem UF (hp:Hp):∀ (n:Nat) (todo aa:List Nat),∃ t,QF hp n todo aa=aa++t
 | 0,todo,aa=>⟨[],by simp[QF]⟩
 | n+1,[],aa=>⟨[],by simp[QF]⟩
 | n+1,id :: todo,aa=>by
  simp only[QF];split
  ·exact UF hp n todo aa
  ·cases lkp hp id with
   | none=>simp only[Wn];exact UF hp n todo aa
   | some o=>
    simp only[Wn];obtain⟨t,ht⟩:=UF hp n (todo++Wf o) (aa++[id]);exact⟨id :: t,by rw[ht];simp⟩
theorem Zno {hp:Hp} {n m:Nat} {todo:List Nat} {k:Nat} (hk:k<m):(QF hp n todo (List.range m))[k]?=some k:=by
 obtain⟨t,ht⟩:=UF hp n todo (List.range m);rw[ht,KL (by simpa using hk)];simp[hk]
theorem Zky {n m:Nat} {todo:List Nat} {hp' : Hp} (hc:Zav Γ0 Γ hp) (hm:ZiW Γ0 m) :
  Zav Γ0 (Jq hp (QF hp n todo (List.range m)) Γ) hp':=by
 intro k r hk;have aa:k<m:=by
  rcases KQ k m with h | h
  ·exact h
  ·rw[hm.1 k h] at hk;cases hk
 simp only[Jq,Zno (hp:=hp) (n:=n) (todo:=todo) aa];exact hc k r hk
theorem Zb9 (h:Sim nt F A I Γ U sl hp a w) {n m:Nat} {todo:List Nat} (hc:Zav Γ0 Γ hp) (hm:ZiW Γ0 m):∀ id∈QF hp n todo (List.range m),∃ r,Γ id=some r:=by
 intro id aa;rcases (Wg hp n todo (List.range m) L4).2.2 id aa with h1 | ⟨o,ho⟩
 ·obtain⟨r,hr⟩:=hm.2 id (by simpa using h1);exact⟨r,hc id r hr⟩
 ·have:=h.objs id o ho;cases o with
  | box cs=>obtain⟨b,cur,e,h1,_⟩:=this;exact⟨_,h1⟩
  | row sz xs ex fz=>obtain⟨ad,n,c,h1,_⟩:=this;exact⟨_,h1⟩
  | tree sz ns xs lk=>obtain⟨ad,n,c,h1,_⟩:=this;exact⟨_,h1⟩
  | gone=>exact this
theorem ZeK {α:Type} (K:List Nat):∀ (l:List (Nat×α)) (t:Nat),lkp (only K l) t=if K.contains t then lkp l t else none
 | [],t=>by simp[only,lkp]
 | (k,v) :: r,t=>by
  simp only[only];by_cases hk:K.contains k=true
  ·rw[Ko hk];simp only[lkp,ZeK K r];by_cases aa:k=t
   ·subst aa;simp only[Kl,hk]
   ·simp only[Kf aa]
  ·rw[Kf hk,ZeK K r];simp only[lkp];by_cases aa:k=t
   ·subst aa;simp only[Kl];rw[Kf hk,Kf hk]
   ·simp only[Kf aa]
end
theorem ZqK {I:Nat→Prop} {Γ:Gh} {st:St} {a:Act} {w:World} (h:Sim nt F A I Γ (Ww st.nx) st.sl st.hp a w) (hc:Zav Γ0 Γ st.hp) (hm:ZiW Γ0 st.m) (K:List Nat) :
  ∃ Γ',Sim nt F A I Γ' (Ww (V3 K st).nx) (V3 K st).sl (V3 K st).hp a w∧Zav Γ0 Γ' (V3 K st).hp:=by
 have aa:=(Wg st.hp (Xd st.hp) (Zkv (only K st.sl)++Vg st.hp (List.range st.m)) (List.range st.m) L4).1;obtain⟨h1,h2,h3⟩:=ZoG h aa (Zb9 h hc hm);refine⟨Jq st.hp (QF st.hp (Xd st.hp) (Zkv (only K st.sl)++Vg st.hp (List.range st.m)) (List.range st.m)) Γ,
  { nt:=h.nt,dfr:=h.dfr,slots:=fun t=>?_,objs:=h1,inj:=h2,bound:=h.bound,fresh:=h.fresh,own:=h.own,names:=fun id ab=>h3 id (Nat.le_of_not_lt ab),glob:=h.glob },Zky hc hm⟩
 show Rep _ w I (gs (Zfh _ (only K st.sl)) t) _;simp only[gs,Zcb,ZeK];have hs:=h.slots t;simp only[gs] at hs;by_cases hK:K.contains t=true
 ·rw[Ko hK];cases hl:lkp st.sl t with
  | none=>exact trivial
  | some v=>rw[hl] at hs;exact ZiX _ hs
 ·rw[Kf hK];exact trivial
end
end Go.Abs
