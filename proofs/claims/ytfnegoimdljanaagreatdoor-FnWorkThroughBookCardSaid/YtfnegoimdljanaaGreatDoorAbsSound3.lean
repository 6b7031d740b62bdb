import Derived.Test.YtfnegoimdljanaaGreatDoorAbsCall4
import Derived.Orders
set_option linter.unusedSimpArgs false
set_option linter.unusedVariables false
namespace Go.Abs
open Go
section
variable {P:Program} {nt:Nat} {F A:Nat→Prop} {Γ0:Gh}
def UU (n:Nat):Nat→Prop:=fun id=>id<n
theorem Zmr (n:Nat):Xa (UU n) n:=fun id h _ hu=>by simp only[UU] at hu;omega
theorem Zms {n:Nat}:∀ id,UE (UU n) n id→UU (n+64) id:=fun id h=>by
 simp only[UE,UU] at h ⊢;omega
theorem ZyP {n m:Nat} (h:n≤m):∀ id,UU n id→UU m id:=fun id hu=>by simp only[UU] at hu ⊢;omega
def Ze9 (Γ0 Γ:Gh) (_:Hp):Prop:=Qa Γ0 Γ
def Zqc (Γ0:Gh) (m:Nat):Prop:=(∀ k,m≤k→Γ0 k=none)∧∀ k,k<m→∃ r,Γ0 k=some r
def UV (nt:Nat) (F A:Nat→Prop) (Γ0:Gh) (I:Nat→Prop) (w:World) (st' : St) (a' : Act) (w' : World):Prop:=
 ∃ I' Γ',Ze9 Γ0 Γ' st'.hp∧ZO I I' w w'∧(∀ b,I' b→I b∨F b)∧Fr F w w'∧Sim nt F A I' Γ' (UU st'.nx) st'.sl st'.hp a' w'
theorem UV.refl {I:Nat→Prop} {Γ:Gh} {st:St} {a:Act} {w:World} (h:Sim nt F A I Γ (UU st.nx) st.sl st.hp a w) (hc:Ze9 Γ0 Γ st.hp):UV nt F A Γ0 I w st a w:=
 ⟨I,Γ,hc,ZO.refl I w,fun _ h=>.inl h,Fr.refl F w,h⟩
theorem UV.step {I I1:Nat→Prop} {w w1 w' : World} {aa : St} {a' : Act} (hk:ZO I I1 w w1) (hs:∀ b,I1 b→I b∨F b) (hf:Fr F w w1) (h:UV nt F A Γ0 I1 w1 aa a' w'):UV nt F A Γ0 I w aa a' w':=by
 obtain⟨I',Γ',h1,h2,h3,h4,h5⟩:=h;refine⟨I',Γ',h1,hk.trans h2,fun b hb=>?_,hf.trans h4,h5⟩;rcases h3 b hb with h6 | h6
 ·exact hs b h6
 ·exact .inr h6
theorem Vi.cpre {Γ Γ' : Gh} {hp hp' : Hp} (hg:Qa Γ Γ') (hc:Ze9 Γ0 Γ hp):Ze9 Γ0 Γ' hp':=fun k r hk=>hg k r (hc k r hk)
theorem ZvU {I:Nat→Prop} {Γ:Gh} {U:Nat→Prop} {sl:Sl} {hp:Hp} {a:Act} {w:World} (h:Sim nt F A I Γ U sl hp a w) {ops:Array Oper} {o:Oper} {g:Option (Nat×Bool)} (hg:ZpW ops.toList o.guard=some g)
  {b:Bool} (hw:ZZ sl g=some b):Region.wanted o (yielded ops a.tmps)=b:=by
 unfold Region.wanted;cases ho:o.guard with
 | none=>
  rw[ho] at hg;simp only[ZpW] at hg;cases hg;simp only[ZZ] at hw;cases hw;rfl
 | some q=>
  rw[ho] at hg;simp only[ZpW] at hg;obtain⟨g',h1,hg⟩:=Za hg;obtain⟨t,h2,hg⟩:=Za hg;cases hg;simp only[ZZ] at hw;have hr:=h.slots t;have ad : ops[q.1]?=some g':=by simpa using h1
  have hy:yielded ops a.tmps q.1=match a.tmps[t]? with
   | some (.bool b)=>some b
   | _=>none:=by unfold yielded;rw[ad];simp only[KN,h2];rfl
  unfold ZeZ at hw;split at hw
  ·rename_i b' aa;cases hw;rw[aa] at hr;have h3:=Zek hr;have h4:a.tmps[t]?=some (.bool b'):=by
    cases ht:a.tmps[t]? with
    | none=>simp[ht,undef] at h3
    | some v=>simp[ht] at h3;rw[h3]
   obtain⟨qj,qw⟩:=q;simp only at hy ⊢;rw[hy,h4];cases b' <;> cases qw<;>rfl
  ·rename_i aa;cases hw;rw[aa] at hr;obtain⟨us,h3,h4⟩:=hr;have h5:∀ b',a.tmps[t]?≠some (.bool b'):=by
    intro b' ab;simp[ab] at h3
   obtain⟨qj,qw⟩:=q;simp only at hy ⊢;rw[hy];cases ht:a.tmps[t]? with
   | none=>rfl
   | some v=>
    cases v<;>first | rfl | (exfalso;exact h5 _ ht)
  ·cases hw
theorem Zmt {Γ:Gh} {w:World} {I:Nat→Prop}:Rep Γ w I (.tup []) undef:=⟨#[],rfl,trivial⟩
theorem Zfa {ops:List Oper} {o:Oper} {co:CO} (h:ZnG P nt ops o=some co):ZpW ops o.guard=some co.guard∧VK (cOp P o.type o.op)=co.op∧QP nt o.dst=true∧co.dst=o.dst:=by
 unfold ZnG at h;obtain⟨g,h1,h⟩:=Za h;split at h
 ·cases h;exact⟨h1,rfl,by assumption,rfl⟩
 ·cases h
theorem Xr {base:Nat} {dst:Option Nat} {sl:Sl} {hp:Hp} {e:Option Ze} {r:Sl×Hp} (h:Ys base dst sl hp e=some r):∃ ce,e=some ce∧QX base (base+64) ce.eff.adds=true∧r=ce.on dst sl hp:=by
 unfold Ys at h;obtain⟨ce,h1,h⟩:=Za h;split at h
 ·cases h;exact⟨ce,h1,by assumption,rfl⟩
 ·cases h
theorem ZBe {ops:Array Oper} {i:Nat} {o:Oper} {aa:List Oper} (h:ops.toList.drop i=o :: aa):ops[i]?=some o∧ops.toList.drop (i+1)=aa∧i<ops.size:=by
 have h1:(ops.toList.drop i)[0]?=some o:=by rw[h];rfl
 rw[Lo] at h1;have h2:ops[i]?=some o:=by simpa using h1
 refine⟨h2,?_,(KO.1 h2).1⟩;rw[← Kaz,h];rfl
def Zeo (l:List Nat) (a a' : Act):Prop:=∀ t,t∉l→a'.tmps.getD t undef=a.tmps.getD t undef
theorem Zeo.step {l:List Nat} {a a' : Act} {d:Option Nat} {u:Value} (h:Zeo l (a.put d u) a'):Zeo (Zof d l) a a':=fun t ht=>by
 cases d with
 | none=>exact h t ht
 | some k=>
  simp only[Zof,Kd,not_or] at ht;rw[h t ht.2];simp[Act.put,Array.getD_eq_getD_getElem?,Array.getElem?_setIfInBounds,Ne.symm ht.1]
theorem Vi.trans {I I1:Nat→Prop} {Γ Γ1:Gh} {w w1 w' : World} {U' : Nat→Prop} {sl' : Sl} {hp' : Hp} {a' : Act} (hg:Qa Γ Γ1) (hk:ZO I I1 w w1) (hs:∀ b,I1 b→I b∨F b) (hf:Fr F w w1) (h:Vi nt F A I1 Γ1 w1 U' sl' hp' a' w'):Vi nt F A I Γ w U' sl' hp' a' w':=by
 obtain⟨I',Γ',h1,h2,h3,h4,h5⟩:=h;refine⟨I',Γ',fun k r hr=>h1 k r (hg k r hr),hk.trans h2,fun b hb=>?_,hf.trans h4,h5⟩;rcases h3 b hb with h6 | h6
 ·exact hs b h6
 ·exact .inr h6
theorem Zqd {C:Orc} {M:Zq} (hC:QJ P C) {ops:Array Oper} {Q:Exit→Act→World→Prop} {nx:Nat} :
  ∀ (os:List CO) (i:Nat) {sl:Sl} {hp:Hp} {r:Sl×Hp} {I:Nat→Prop} {Γ:Gh} {a:Act} {w:World},i≤ops.size→QF (ZnG P nt ops.toList) (ops.toList.drop i)=some (Zmq os)→Ze3 C M nx i os sl hp=some r →
   Sim nt F A I Γ (UU (nx+64*i)) sl hp a w→(∀ a' w',Vi nt F A I Γ w (UU (nx+64*ops.size)) r.1 r.2 a' w'→Zeo (UT os) a a'→Q .normal a' w') →
   wpOps P ops Q (List.range' i (ops.size-i)) a w:=by
 intro os
 induction os with
 | nil=>
  intro i sl hp r I Γ a w ah aa hv hS hQ;have hd:ops.toList.drop i=[]:=by
   cases hd:ops.toList.drop i with
   | nil=>rfl
   | cons o rest=>
    rw[hd] at aa;simp only[QF] at aa;obtain⟨_,_,aa⟩:=Za aa;obtain⟨_,_,aa⟩:=Za aa;simp[Zmq] at aa
  have hi:ops.size≤i:=by
   have:=List.drop_eq_nil_iff.1 hd;simpa using this
  have ak:i=ops.size:=o_
  subst ak;rw[show ops.size-ops.size=0 by omega];simp only[Ze3] at hv;cases hv;simp only[List.range',wpOps];exact hQ a w ⟨I,Γ,fun _ _ h=>h,ZO.refl I w,fun _ h=>.inl h,Fr.refl F w,hS⟩ fun _ _=>rfl
 | cons co os ih=>
  intro i sl hp r I Γ a w ah aa hv hS hQ;cases hd:ops.toList.drop i with
  | nil=>rw[hd] at aa;simp[QF,Zmq] at aa
  | cons o rest=>
   obtain⟨ho,ad,an⟩:=ZBe hd;rw[hd] at aa;simp only[QF] at aa;obtain⟨ao,h1,aa⟩:=Za aa;obtain⟨ap,h2,aa⟩:=Za aa;simp only[Zmq,Option.some.injEq,List.cons.injEq] at aa;obtain⟨rfl,rfl⟩:=aa;obtain⟨hg,aj,ae,ag⟩:=Zfa h1;dsimp only at hg aj ag;rw[show ops.size-i=(ops.size-(i+1))+1 by omega,List.range'_succ];simp only[Ze3] at hv;obtain⟨b,hw,hv⟩:=Za hv;have af:=ZvU hS hg hw;simp only[wpOps,ho,af];rw[ag] at hv;cases b with
   | true=>
    simp only[Kl] at hv ⊢;obtain⟨q,hq,hv⟩:=Za hv;obtain⟨ce,al,am,rfl⟩:=Xr hq;refine .inl (ZCl hC hS aj (Zmr _) ae am al _ _ fun u w' hp'=>?_);obtain⟨I1,Γ1,b1,b2,b3,b4,b5⟩:=hp';refine ih (i+1) o_ (by rw[ad];exact h2) hv (by rw[show nx+64*(i+1)=nx+64*i+64 by omega];exact b5.more Zms) fun a' ai ab hs=>hQ a' ai (ab.trans b1 b2 b3 b4) (by simp only[UT];rw[ag];exact hs.step)
   | false=>
    simp only[Ka,Km] at hv ⊢;obtain⟨I1,Γ1,b1,b2,b3,b4,b5⟩:=hS.pure (U':=UU (nx+64*(i+1))) (v:=.tup []) (u:=undef) (dst:=o.dst) (ZyP o_) Zmt ae;exact ih (i+1) o_ (by rw[ad];exact h2) hv b5 fun a' ai ab hs=>hQ a' ai (ab.trans b1 b2 b3 b4) (by simp only[UT];rw[ag];exact hs.step)
theorem ZkR {hp:Hp} {ids:List Nat}:∀ {l:List Nat} {i:Nat},i∈l→i∉ZgT hp ids l→Zdw hp ids i=true
 | [],i,h,_=>by simp at h
 | x :: r,i,h,hn=>by
  simp only[ZgT] at hn;cases hl:Zdw hp ids x with
  | true=>
   rw[hl] at hn;simp only[Kl] at hn;rcases Kd.1 h with rfl | h
   ·exact hl
   ·exact ZkR h hn
  | false=>
   rw[hl] at hn;simp only[Ka,Km,Kd,not_or] at hn;rcases Kd.1 h with rfl | h
   ·exact absurd rfl hn.1
   ·exact ZkR h hn.2
def ZbV (_:Hp) (ids:List Nat) (Γ:Gh):Gh:=fun k=>match ids[k]? with
 | some id=>Γ id
 | none=>none
theorem ZsV {hp:Hp} {ids:List Nat} {Γ:Gh} {id:Nat} (h:Zdw hp ids id=true):ZbV hp ids Γ (VI ids id)=Γ id:=by
 simp only[Zdw,Kf,KX,Ko] at h;simp only[ZbV,(Zkg h.1).2]
section
variable {I:Nat→Prop} {Γ:Gh} {U:Nat→Prop} {sl:Sl} {hp:Hp} {a:Act} {w:World}
theorem Zqe (ids:List Nat) {x:AV} {v:Value} (h:Rep Γ w I x v):Rep (ZbV hp ids Γ) w I (Zen hp ids x) v:=by
 refine ZoP (fun id aa r hr=>?_) (ZO.refl I w) (Zu3 (bad:=ZgT hp ids (Zx x)) h);obtain⟨h1,h2⟩:=Zso _ _ id aa;rw[ZsV (ZkR h1 h2)];exact hr
theorem ZBf {ids:List Nat} {k id:Nat} (hk:ids[k]?=some id) {o:Zk} (hl:lkp hp id=some o) (ho:YF Γ w I F A id o):YF (ZbV hp ids Γ) w I F A k (ZgU hp ids o):=by
 have hG:ZbV hp ids Γ k=Γ id:=by simp[ZbV,hk]
 cases o with
 | box cs=>
  obtain⟨b,cur,e,h1,h2,h3,h4,h5,ab⟩:=ho;refine⟨b,cur,e,by rw[hG,h1],h2,h3,h4,?_,(ab.map (Uh _)).map (Zbo _)⟩;have h6:Zy (Xw Γ w I) (cs.map (ZS (ZgT hp ids (UI (.box cs))))) cur.toList:=h5.map_left fun _ _ h=>Zl4 h;refine Zec (fun ae aa r hr=>?_) (ZO.refl I w) h6;obtain⟨y,hy,aa⟩:=Kz.1 aa;obtain⟨x,hx,rfl⟩:=Lk.1 hy;obtain⟨h7,h8⟩:=Zju _ x ae aa;rw[ZsV (ZkR (Kz.2 ⟨x,hx,h7⟩) h8)];exact hr
 | row sz xs ex fz=>
  obtain⟨ad,n,c,h1,h2⟩:=ho;exact⟨ad,n,c,by rw[hG,h1],h2⟩
 | gone=>
  obtain⟨r,h1⟩:=ho;exact⟨r,by rw[hG,h1]⟩
 | tree sz ns xs lk=>
  obtain⟨ad,n,c,h1,h2,h3⟩:=ho;refine⟨ad,n,c,by rw[hG,h1],?_,Yj.lose (Yj.kill (Γ':=Γ) h3 (fun _ _ _ h=>h) fun _ _=>rfl)⟩;rw[Uv,Uw];exact h2
theorem ZxB (h:Sim nt F A I Γ U sl hp a w) {ids:List Nat} (af:ids.Nodup) (ae:∀ id∈ids,∃ r,Γ id=some r) :
  JF (ZbV hp ids Γ) w I F A (VR 0 ((Zdr hp ids).map (ZgU hp ids))) ∧
  (∀ i j o o' b,lkp (VR 0 ((Zdr hp ids).map (ZgU hp ids))) i=some o→lkp (VR 0 ((Zdr hp ids).map (ZgU hp ids))) j=some o'→Blk (ZbV hp ids Γ) w i o b→Blk (ZbV hp ids Γ) w j o' b→i=j) ∧
  (∀ id,ids.length≤id→ZbV hp ids Γ id=none):=by
 have get:∀ k o,lkp (VR 0 ((Zdr hp ids).map (ZgU hp ids))) k=some o→∃ id,ids[k]?=some id∧o=ZgU hp ids (ZvI (lkp hp id)):=by
  intro k o hk;rw[WG] at hk;simp only[Kaj,Kl,Nat.sub_zero,Ld,Zo6,Option.map_map] at hk;cases hi:ids[k]? with
  | none=>rw[hi] at hk;cases hk
  | some id=>
   rw[hi] at hk;simp only[K4,Option.some.injEq,Function.comp_apply] at hk;exact⟨id,rfl,hk.symm⟩
 refine⟨fun k o hk=>?_,fun i j o o' b hi hj aa ab=>?_,fun id ag=>?_⟩
 ·obtain⟨id,h1,rfl⟩:=get k o hk;cases hl:lkp hp id with
  | none=>
   obtain⟨r,hr⟩:=ae id (Kb h1);exact⟨r,by simp[ZbV,h1,hr]⟩
  | some o0=>exact ZBf h1 hl (h.objs id o0 hl)
 ·obtain⟨id,h1,rfl⟩:=get i o hi;obtain⟨ad,h2,rfl⟩:=get j o' hj;have bk:∀ (k id:Nat) (o0:Zk),ZbV hp ids Γ k=Γ id→Blk (ZbV hp ids Γ) w k (ZgU hp ids o0) b→Blk Γ w id o0 b:=by
   intro k id o0 e hb;rcases hb with hb | hb | hb
   ·unfold ZgU at hb;rw[Zme,ZjE,e] at hb;exact .inl hb
   ·cases o0 with
    | box cs=>exact False.elim hb
    | row sz xs ex fz=>exact False.elim hb
    | gone=>exact False.elim hb
    | tree sz ns xs lk=>
     obtain⟨g,p,h5,h6⟩:=hb;rw[Uv,Uw] at h6;exact .inr (.inl ⟨g,p,e ▸ h5,h6⟩)
   ·cases o0 with
    | box cs=>exact .inr (.inr ((Buf.unmap (Uh _) (Buf.unmap (Zbo _) hb)).ren e.symm))
    | row sz xs ex fz=>exact False.elim hb
    | gone=>exact False.elim hb
    | tree sz ns xs lk=>exact False.elim hb
  cases hl:lkp hp id with
  | none=>rw[hl] at aa;exact aa.isGone.elim
  | some o0=>
   cases hl' : lkp hp ad with
   | none=>rw[hl'] at ab;exact ab.isGone.elim
   | some o1=>
    have e1:ZbV hp ids Γ i=Γ id:=by simp[ZbV,h1]
    have e2:ZbV hp ids Γ j=Γ ad:=by simp[ZbV,h2]
    rw[hl] at aa;rw[hl'] at ab;have:=h.inj id ad o0 o1 b hl hl' (bk i id o0 e1 aa) (bk j ad o1 e2 ab);subst this;exact Zsq af h1 h2
 ·simp[ZbV,KZ ag]
theorem Za5 (hp:Hp):∀ (n:Nat) (todo aa:List Nat),∃ t,Q6 hp n todo aa=aa++t
 | 0,todo,aa=>⟨[],by simp[Q6]⟩
 | n+1,[],aa=>⟨[],by simp[Q6]⟩
 | n+1,id :: todo,aa=>by
  simp only[Q6];split
  ·exact Za5 hp n todo aa
  ·cases lkp hp id with
   | none=>simp only[UP];exact Za5 hp n todo aa
   | some o=>
    simp only[UP];obtain⟨t,ht⟩:=Za5 hp n (todo++UI o) (aa++[id]);exact⟨id :: t,by rw[ht];simp⟩
theorem ZvV {hp:Hp} {n m:Nat} {todo:List Nat} {k:Nat} (hk:k<m):(Q6 hp n todo (List.range m))[k]?=some k:=by
 obtain⟨t,ht⟩:=Za5 hp n todo (List.range m);rw[ht,KI (by simpa using hk)];simp[hk]
theorem ZsW {n m:Nat} {todo:List Nat} {hp' : Hp} (hc:Ze9 Γ0 Γ hp) (hm:Zqc Γ0 m) :
  Ze9 Γ0 (ZbV hp (Q6 hp n todo (List.range m)) Γ) hp':=by
 intro k r hk;have aa:k<m:=by
  rcases K7 k m with h | h
  ·exact h
  ·rw[hm.1 k h] at hk;cases hk
 simp only[ZbV,ZvV (hp:=hp) (n:=n) (todo:=todo) aa];exact hc k r hk
theorem ZgY (h:Sim nt F A I Γ U sl hp a w) {n m:Nat} {todo:List Nat} (hc:Ze9 Γ0 Γ hp) (hm:Zqc Γ0 m):∀ id∈Q6 hp n todo (List.range m),∃ r,Γ id=some r:=by
 intro id aa;rcases (UA hp n todo (List.range m) Kaq).2.2 id aa with h1 | ⟨o,ho⟩
 ·obtain⟨r,hr⟩:=hm.2 id (by simpa using h1);exact⟨r,hc id r hr⟩
 ·have:=h.objs id o ho;cases o with
  | box cs=>obtain⟨b,cur,e,h1,_⟩:=this;exact⟨_,h1⟩
  | row sz xs ex fz=>obtain⟨ad,n,c,h1,_⟩:=this;exact⟨_,h1⟩
  | tree sz ns xs lk=>obtain⟨ad,n,c,h1,_⟩:=this;exact⟨_,h1⟩
  | gone=>exact this
theorem ZkS {α:Type} (K:List Nat):∀ (l:List (Nat×α)) (t:Nat),lkp (only K l) t=if K.contains t then lkp l t else none
 | [],t=>by simp[only,lkp]
 | (k,v) :: r,t=>by
  simp only[only];by_cases hk:K.contains k=true
  ·rw[Kj hk];simp only[lkp,ZkS K r];by_cases aa:k=t
   ·subst aa;simp only[Kl,hk]
   ·simp only[Ke aa]
  ·rw[Ke hk,ZkS K r];simp only[lkp];by_cases aa:k=t
   ·subst aa;simp only[Kl];rw[Ke hk,Ke hk]
   ·simp only[Ke aa]
end
theorem ZzY {I:Nat→Prop} {Γ:Gh} {st:St} {a:Act} {w:World} (h:Sim nt F A I Γ (UU st.nx) st.sl st.hp a w) (hc:Ze9 Γ0 Γ st.hp) (hm:Zqc Γ0 st.m) (K:List Nat) :
  ∃ Γ',Sim nt F A I Γ' (UU (Ut K st).nx) (Ut K st).sl (Ut K st).hp a w∧Ze9 Γ0 Γ' (Ut K st).hp:=by
 have aa:=(UA st.hp (XN st.hp) (ZsU (only K st.sl)++Wl st.hp (List.range st.m)) (List.range st.m) Kaq).1;obtain⟨h1,h2,h3⟩:=ZxB h aa (ZgY h hc hm);refine⟨ZbV st.hp (Q6 st.hp (XN st.hp) (ZsU (only K st.sl)++Wl st.hp (List.range st.m)) (List.range st.m)) Γ,
  { nt:=h.nt,dfr:=h.dfr,slots:=fun t=>?_,objs:=h1,inj:=h2,bound:=h.bound,fresh:=h.fresh,own:=h.own,names:=fun id ab=>h3 id (Nat.le_of_not_lt ab),glob:=h.glob },ZsW hc hm⟩
 show Rep _ w I (gs (Zmg _ (only K st.sl)) t) _;simp only[gs,ZgZ,ZkS];have hs:=h.slots t;simp only[gs] at hs;by_cases hK:K.contains t=true
 ·rw[Kj hK];cases hl:lkp st.sl t with
  | none=>exact trivial
  | some v=>rw[hl] at hs;exact Zqe _ hs
 ·rw[Ke hK];exact trivial
end
end Go.Abs
namespace Go.Abs
open Go
def exOf:Ex→Exit
 | .normal=>.normal
 | .exit id=>.exit id
 | .ret=>.ret
theorem Zj {p:Nat→Prop} (h:∃ n,p n):∃ n,p n∧∀ m,p m→n≤m:=by
 obtain⟨n,hn⟩:=h
 induction n using Nat.strongRecOn with
 | _ n ih=>
  by_cases hm:∃ m,m<n∧p m
  ·obtain⟨m,h1,h2⟩:=hm;exact ih m h1 h2
  ·exact⟨n,hn,fun m aa=>by
    rcases K7 m n with h | h
    ·exact absurd ⟨m,h,aa⟩ hm
    ·exact h⟩
open Classical in
noncomputable def ZoW (p:Nat→Prop):Nat:=if h:∃ n,p n then (Zj h).choose else 0
theorem ZkT {p:Nat→Prop} (h:∃ n,p n):p (ZoW p)∧∀ m,p m→ZoW p≤m:=by
 unfold ZoW;rw[dif_pos h];exact(Zj h).choose_spec
theorem ZzZ {P:Program} {c:Code} {Q:Exit→Act→World→Prop} (J:Nat→Act→World→Prop) (aa:∀ n a w,J n a w→c.wp P (Exit.then (fun a' w'=>∃ m,m<n∧J m a' w') Q) a w) {n:Nat} {a:Act} {w:World} (h0:J n a w) :
  (Code.loop c).wp P Q a w:=by
 refine wp_loop (fun a w=>∃ n,J n a w) (fun a w=>ZoW fun n=>J n a w) ⟨n,h0⟩ fun a w hI=>?_;refine wp_mono (aa _ a w (ZkT hI).1) fun e a' w' he=>?_;cases e with
 | normal=>
  obtain⟨m,hm,hJ⟩:=he;exact⟨⟨m,hJ⟩,Nat.lt_of_le_of_lt ((ZkT ⟨m,hJ⟩).2 m hJ) hm⟩
 | _=>exact he
section
variable {P:Program} {nt:Nat} {F A:Nat→Prop} {Γ0:Gh}
def Wm (P:Program) (C:Orc) (M:Zq) (nt:Nat):Prop:=
 ∀ (F A:Nat→Prop) (Γ0:Gh) (ops:Array Oper) (os:List CO) (nx m:Nat) (sl:Sl) (hp:Hp) (r:Sl×Hp) (I:Nat→Prop) (Γ:Gh) (a:Act) (w:World) (Q:Exit→Act→World→Prop) (id:Nat),
  QF (ZnG P nt ops.toList) ops.toList=some os→Zp1 ops os=true→Us C (X5 M) nx 0 false os sl hp=some r→VM os r.1 (JK ops os)=true→Sim nt F A I Γ (UU nx) sl hp a w→Ze9 Γ0 Γ hp →
  (∀ a' w',UV nt F A Γ0 I w { sl:=r.1,hp:=r.2,nx:=nx+64*ops.size,m:=m } a' w'→Zeo (UT os) a a'→Q .normal a' w')→(Code.region id ops true).wp P Q a w
theorem ZxC {C:Orc} {M:Zq} {N:Nat}:∀ (c:ZM) (st aa : St) (e:Ex),ZG C M N c st=some (e,aa)→aa.m=st.m:=by
 intro c
 induction c with
 | skip=>intro st aa e h;simp only[ZG] at h;cases h;rfl
 | region n d ops=>
  intro st aa e h;cases d<;>(simp only[ZG,ZiG] at h;obtain⟨r,_,h⟩:=Za h;cases h;rfl)
 | seq x y ihx ihy=>
  intro st aa e h;simp only[ZG] at h;cases hx:ZG C M N x st with
  | none=>rw[hx] at h;cases h
  | some q=>
   obtain⟨e1,st1⟩:=q;rw[hx] at h;have h1:=ihx _ _ _ hx;cases e1<;>simp only[andThen] at h
   ·rw[ihy _ _ _ h,h1]
   ·cases h;exact h1
   ·cases h;exact h1
 | cond c x y ihx ihy=>
  intro st aa e h;simp only[ZG] at h;unfold ZiW at h;split at h
  ·split at h
   ·exact ihx _ _ _ h
   ·exact ihy _ _ _ h
  ·cases h
 | block id c ih=>
  intro st aa e h;simp only[ZG] at h;cases hx:ZG C M N c st with
  | none=>rw[hx] at h;cases h
  | some q=>
   obtain⟨e1,st1⟩:=q;rw[hx] at h;have h1:=ih _ _ _ hx;unfold ZgV at h;split at h
   ·rename_i j ab hq;cases hq;split at h<;>(cases h;exact h1)
   ·cases h;exact h1
 | loop c ih=>
  intro st aa e h;simp only[ZG] at h;have ad:∀ (K:List Nat) (n:Nat) (st:St),Jz (ZG C M N c) K n st=some (e,aa)→aa.m=st.m:=by
   intro K n
   induction n with
   | zero=>intro st h;simp only[Jz] at h;cases h
   | succ n ihn=>
    intro st h;simp only[Jz] at h;cases hx:ZG C M N c (Ut K st) with
    | none=>rw[hx] at h;cases h
    | some q=>
     obtain⟨e1,st1⟩:=q;rw[hx] at h;have h1:=ih _ _ _ hx;cases e1 with
     | normal=>simp only at h;rw[ihn _ h,h1];rfl
     | exit id=>simp only at h;cases h;exact h1
     | ret=>simp only at h;cases h;exact h1
  exact ad _ N st h
 | exit id=>intro st aa e h;simp only[ZG] at h;cases h;rfl
 | ret=>intro st aa e h;simp only[ZG] at h;cases h;rfl
 | stuck=>intro st aa e h;simp only[ZG] at h;cases h
 | link fl id i j c ih=>
  intro st aa e h;simp only[ZG] at h;obtain⟨st1,h1,h⟩:=Za h;cases hx:ZG C M N c st1 with
  | none=>rw[hx] at h;cases h
  | some q=>
   obtain⟨e1,ab⟩:=q;rw[hx] at h;simp only[Zp4] at h;cases h;have h2:=ih _ _ _ hx;unfold Ze5 at h1;obtain⟨n,_,h1⟩:=Za h1;split at h1
   ·obtain⟨o,_,h1⟩:=Za h1;cases h1;exact h2
   ·cases h1
 | melt c ih=>
  intro st aa e h;simp only[ZG] at h;rw[ih _ _ _ h];rfl
 | peek id c ih=>
  intro st aa e h;simp only[ZG] at h;obtain⟨ds,_,h⟩:=Za h;obtain⟨st1,h1,h⟩:=Za h;unfold Zmm at h1;obtain⟨o,_,h1⟩:=Za h1;cases h1;cases hx:ZG C M N c { st with hp:=[(id,o)] } with
  | none=>rw[hx] at h;cases h
  | some q=>
   rw[hx] at h;cases h;have h2:=ih _ _ _ hx;exact h2
 | keep K c ih=>
  intro st aa e h;simp only[ZG] at h;cases hx:ZG C M N c st with
  | none=>rw[hx] at h;cases h
  | some q=>
   obtain⟨e1,st1⟩:=q;rw[hx] at h;simp only[Zp2] at h;cases h;show st1.m=st.m;exact ih _ _ _ hx
theorem ZCI (K:List Nat) (sl:Sl) (t:Nat):gs (only K sl) t=if K.contains t then gs sl t else .junk:=by
 simp only[gs,ZkS];split<;>rfl
theorem Sim.only {I:Nat→Prop} {Γ:Gh} {U:Nat→Prop} {sl:Sl} {hp:Hp} {a:Act} {w:World} (h:Sim nt F A I Γ U sl hp a w) (K:List Nat):Sim nt F A I Γ U (only K sl) hp a w where
 nt:=h.nt
 dfr:=h.dfr
 slots:=fun t=>by
  rw[ZCI];split
  ·exact h.slots t
  ·exact trivial
 objs:=h.objs
 inj:=h.inj
 bound:=h.bound
 fresh:=h.fresh
 own:=h.own
 names:=h.names
 glob:=h.glob
theorem UV.only {I:Nat→Prop} {w:World} {aa : St} {a' : Act} {w' : World} (h:UV nt F A Γ0 I w aa a' w') (K:List Nat):UV nt F A Γ0 I w { aa with sl:=only K aa.sl } a' w':=by
 obtain⟨I',Γ',h1,h2,h3,h4,h5⟩:=h;exact⟨I',Γ',h1,h2,h3,h4,h5.only K⟩
section
variable (P nt)
theorem Wn:∀ {c:Code} {cc:ZM},V3 P nt c=some cc→match cc with
  | .skip=>c=.skip
  | .region n d os=>∃ id ops draw,c=.region id ops draw
  | .seq u v=>∃ x y,c=.seq x y∧V3 P nt x=some u∧V3 P nt y=some v
  | .cond co u v=>∃ o x y,c=.cond o x y∧ZW o=some co∧V3 P nt x=some u∧V3 P nt y=some v
  | .block id u=>∃ x,c=.block id x∧V3 P nt x=some u
  | .loop u=>∃ x,c=.loop x∧V3 P nt x=some u
  | .exit id=>c=.exit id
  | .ret=>c=.ret
  | .keep _ _=>False
  | .link _ _ _ _ _=>False
  | .melt _=>False
  | .peek _ _=>False
  | .stuck=>True:=by
 intro c cc h;cases c<;>simp only[V3] at h
 case skip=>cases h;rfl
 case region id ops draw=>
  obtain⟨os,_,h⟩:=Za h;split at h
  ·split at h
   ·cases h;exact⟨_,_,_,rfl⟩
   ·cases h;trivial
  ·cases h;exact⟨_,_,_,rfl⟩
 case seq x y=>
  obtain⟨u,h1,h⟩:=Za h;obtain⟨v,h2,h⟩:=Za h;cases h;exact⟨x,y,rfl,h1,h2⟩
 case cond o x y=>
  obtain⟨co,h0,h⟩:=Za h;obtain⟨u,h1,h⟩:=Za h;obtain⟨v,h2,h⟩:=Za h;cases h;exact⟨o,x,y,rfl,h0,h1,h2⟩
 case block id x=>
  obtain⟨u,h1,h⟩:=Za h;cases h;exact⟨x,rfl,h1⟩
 case loop x=>
  obtain⟨u,h1,h⟩:=Za h;cases h;exact⟨x,rfl,h1⟩
 case exit id=>cases h;rfl
 case ret=>cases h;rfl
 all_goals (cases h;trivial)
end
theorem Zqf {l:List Value} {p:Nat} (v:Value) (hp:p<l.length):Zw l p [v]=l.set p v:=by
 refine LD fun k=>?_;rw[Qs _ _ _ _ (by simp;omega)];by_cases e:p=k
 ·subst e;rw[Kj (by simp),LF hp];simp
 ·rw[Ll e,Ke (by simp;omega)]
theorem ZnI {xs:List D} {n j:Nat} {ys:List D} (h:UQ xs n j=some ys):∃ x,xs[n]?=some x∧x.cells[j]?=some (.sl ys):=by
 obtain⟨x,h1,h2⟩:=Za h;refine⟨x,h1,?_⟩;split at h2
 ·rename_i aa hy;cases h2;exact hy
 ·cases h2
theorem ZBg {I:Nat→Prop} {Γ:Gh} {w:World} {fl:Bool} {ns:Nat} {ys:List D} {o:Zk} (ho:ZyL fl ns ys=some o) {B:List Nat} {a:Option Addr} {c nm:Nat} (hT:Qq w ns B (.sl ys) (.slice a ys.length c)) (ae:B.Nodup) (hB:∀ b∈B,¬I b∧F b) (hg:Γ nm=some (.row a ys.length c ns)) :
  YF Γ w I F A nm o∧∀ b,Blk Γ w nm o b→b∈B:=by
 simp only[Qq] at hT;obtain⟨a',c',e,aa,hT⟩:=hT;cases e;unfold ZyL at ho;split at ho
 ·split at ho
  ·rename_i hf;cases ho;rcases hT with ⟨rfl,rfl⟩ | ⟨g,cur,e,Bs,rfl,h1,h2,h3,h4,h5,rfl,h6⟩
   ·exact⟨⟨_,_,_,hg,rfl,.inl ⟨o_,rfl⟩⟩,fun b hb=>(hb.nil (by rw[hg];cases a<;>simp[Zz])).elim⟩
   ·refine⟨⟨_,_,_,hg,rfl,.inr ⟨g,0,cur,e,rfl,h1,h2,aa,h3,⟨o_,fun _=>rfl⟩,h5,by simpa using (hB g (by simp)).1,(hB g (by simp)).2,Zng hf (h6.rep (S:=fun _=>True) fun _ _=>trivial)⟩⟩,fun b hb=>?_⟩;have:=hb.row;rw[hg] at this;simp[Zz,KE h1] at this;simp[this]
  ·cases ho
 ·cases ho;rcases hT with ⟨rfl,rfl⟩ | ⟨g,cur,e,Bs,rfl,h1,h2,h3,h4,h5,rfl,h6⟩
  ·exact⟨⟨_,_,_,hg,⟨rfl,.inl ⟨o_,rfl,rfl⟩⟩,trivial⟩,fun b hb=>(hb.nil (by rw[hg];cases a<;>simp[Zz])).elim⟩
  ·refine⟨⟨_,_,_,hg,⟨rfl,.inr ⟨g,cur,e,Bs,rfl,h1,h2,aa,h3,h4,h5,h6,ae,hB⟩⟩,trivial⟩,fun b hb=>?_⟩;have ab:Zz (Γ nm)=some g:=by rw[hg];simp[Zz,KE h1]
   rcases hb with hb | ⟨g',B',ad,af,hb⟩ | hb
   ·rw[JE,ab] at hb;cases hb;simp
   ·rw[ab] at ad;cases ad;cases ZY.uniq h6 af;simp[hb]
   ·exact hb.elim
theorem Sim.link {I:Nat→Prop} {Γ:Gh} {st ae : St} {a:Act} {w:World} (h:Sim nt F A I Γ (UU st.nx) st.sl st.hp a w) (hc:Ze9 Γ0 Γ st.hp) {fl:Bool} {id:Nat} {i:Opd} {j:Nat} (hl:Ze5 fl id i j st=some ae) :
  ∃ Γ',Sim nt F A I Γ' (UU ae.nx) ae.sl ae.hp a w∧Ze9 Γ0 Γ' ae.hp∧ae.m=st.m:=by
 unfold Ze5 at hl;obtain⟨n,_,hl⟩:=Za hl;split at hl
 ·obtain⟨q,h1,hl⟩:=Za hl;cases hl;unfold ZyM at h1;split at h1
  ·rename_i sz ns xs ho;obtain⟨ys,h2,h1⟩:=Za h1;obtain⟨o,h3,h1⟩:=Za h1;obtain⟨a3,h4,h1⟩:=Za h1;cases h1;obtain⟨x,hx,af⟩:=ZnI h2;obtain⟨ad,m,c,hg,⟨hm,hd⟩,_⟩:=h.objs id _ ho;have hi:n.toNat<xs.length:=(Kc.1 hx).1;rcases hd with hd | ⟨g,cur,e,B,rfl,p1,p2,p3,p4,p5,p6,p7,p8,p9⟩
   ·omega
   ·obtain⟨vs,_,_,_,_,v1,_,v3,_⟩:=ZY.at p7 hx;cases x with
    | int _ _=>cases j<;>simp[D.cells] at af
    | bool _=>cases j<;>simp[D.cells] at af
    | str _=>cases j<;>simp[D.cells] at af
    | sl _=>simp only[Xn] at v3
    | agg cs=>
     simp only[D.cells] at af;have ao:cs.length=sz:=by have:=v3.cells.length;simp only[D.cells] at this;omega
     have hj:j<sz:=by rw[← ao];exact(Kc.1 af).1
     have ax:n.toNat*sz+sz≤cur.size:=by
      rw[p5,← Nat.succ_mul];exact KM _ o_
     obtain⟨ai,ap⟩:=Lj.1 p8;obtain⟨B',BM,vm,t1,t2,t3,t4⟩:=Zio (us:=[.slice none 0 0]) (ds:=[.sl []]) (Bq:=[]) (off:=j) p2 p7 hx ao (by simp;omega)
      (by simp only[Qd,Qq];exact⟨_,[],[],[],rfl,rfl,⟨none,0,rfl,Kp _,.inl ⟨rfl,rfl⟩⟩,rfl,rfl⟩) ai (by simp) ax
     have hM:(cs.drop j).take [Value.slice none 0 0].length=[.sl ys]:=by
      refine LD fun k=>?_;cases k with
      | zero=>simp[Lo,af]
      | succ k=>simp[Lp]
     rw[hM] at t3;simp only[Qd] at t3;obtain⟨v,_,al,_,rfl,rfl,hv,rfl,rfl⟩:=t3;rw[KD] at t2;have ag:=t4 0 v rfl;have aq:=hv;simp only[Qq] at aq;obtain⟨a',c',rfl,_,_⟩:=aq;have ar:Γ st.nx=none:=h.names st.nx (by simp[UU]);have hk:=Vt (.row a' ys.length c' ns) ar;have ay:id≠st.nx:=fun e=>by subst e;rw[ar] at hg;cases hg
     simp only[ZkN,hx,Zg,Option.some.injEq] at h4;subst h4;have ab:∀ b,b∈B'∨b∈al→b∈B:=fun b hb=>by
      have:=t2 b;simp only[List.count_nil,Kae] at this;rw[← K3];rcases hb with hb | hb<;>have:=K3.2 hb<;>omega
     have ah:∀ b,b∈B'→b∈al→False:=fun b hb az=>by
      have h1:=t2 b;have h2:=K3.2 hb;have h3:=K3.2 az;have h4:=L4.1 ap b;simp only[List.count_nil,Kae] at h1;omega
     have au:∀ L:List Nat,(∀ b,List.count b L≤List.count b B)→L.Nodup:=fun L hL=>L4.2 fun b=>Ku (hL b) (L4.1 ap b);have aj:Zz (Γ id)=some g:=by rw[hg];simp[Zz,KE p1]
     have am:(Zw cur.toList (n.toNat*sz+j) [Value.slice none 0 0]).toArray=cur.setIfInBounds (n.toNat*sz+j) (.slice none 0 0):=by
      rw[Zqf (l:=cur.toList) _ (by rw[K5];omega)];apply Array.ext';rw[Kal]
     rw[am,← Zic p2] at t1;obtain⟨a0,a1⟩:=ZBg (Γ:=upd Γ st.nx (.row a' ys.length c' ns)) (I:=I) (F:=F) (A:=A) (nm:=st.nx) h3 hv (au _ fun b=>by have:=t2 b;simp only[List.count_nil,Kae] at this;omega)
      (fun b hb=>p9 b (Kv _ (ab b (.inr hb)))) (ZJ _ _ _)
     have an:∀ k o,lkp st.hp k=some o→upd Γ st.nx (.row a' ys.length c' ns) k=Γ k:=fun k o hl=>QI _ _ fun e=>by
      subst e;exact absurd (h.id_in hl) (by simp[UU])
     have av:∀ k o',lkp (ins (ins st.hp id (.tree sz ns (xs.set n.toNat (Y6 (.agg cs) j [.sl []])) (some (some st.nx,n.toNat,j)))) st.nx o) k=some o' →
       (k=st.nx∧o'=o)∨(k=id∧o'=.tree sz ns (xs.set n.toNat (Y6 (.agg cs) j [.sl []])) (some (some st.nx,n.toNat,j)))∨(k≠id∧lkp st.hp k=some o'):=by
      intro k o' hk;rw[Qg] at hk;split at hk
      ·rename_i e;cases hk;exact .inl ⟨e.symm,rfl⟩
      ·rw[Qg] at hk;split at hk
       ·rename_i e;cases hk;exact .inr (.inl ⟨e.symm,rfl⟩)
       ·rename_i e;exact .inr (.inr ⟨fun h=>e h.symm,hk⟩)
     have a2:∀ b,Blk (upd Γ st.nx (.row a' ys.length c' ns)) w id (.tree sz ns (xs.set n.toNat (Y6 (.agg cs) j [.sl []])) (some (some st.nx,n.toNat,j))) b→b=g∨b∈B':=by
      rintro b (hb | ⟨g',B2,hg',hB2,hb⟩ | hb)
      ·rw[JE,an _ _ ho,aj] at hb;cases hb;exact .inl rfl
      ·rw[an _ _ ho,aj] at hg';cases hg';cases ZY.uniq t1 hB2;exact .inr hb
      ·exact hb.elim
     have ak:∀ b,b=g∨b∈B→Blk Γ w id (.tree sz ns xs none) b:=fun b hb=>hb.elim (fun e=>.inl (e ▸ aj)) fun hb=>.inr (.inl ⟨g,B,aj,p7,hb⟩);refine⟨upd Γ st.nx (.row a' ys.length c' ns),?_,fun k r hr=>hk _ _ (hc k r hr),rfl⟩;refine { nt:=h.nt,dfr:=h.dfr,slots:=fun t=>(h.slots t).mono hk (ZO.refl I w),objs:=?_,inj:=?_,bound:=h.bound,fresh:=h.fresh,own:=h.own,names:=?_,glob:=h.glob }
     ·intro k o' aa;rcases av k o' aa with ⟨rfl,rfl⟩ | ⟨rfl,rfl⟩ | ⟨_,aa⟩
      ·exact a0
      ·refine⟨_,m,c,hk _ _ hg,⟨by simp[hm],.inr ⟨g,cur,e,B',rfl,p1,p2,p3,p4,p5,p6,t1,Lj.2 ⟨fun hb=>ai (ab g (.inl hb)),au _ fun b=>by have:=t2 b;simp only[List.count_nil,Kae] at this;omega⟩,fun b hb=>?_⟩⟩,?_⟩
       ·rcases Kd.1 hb with rfl | hb
        ·exact p9 _ (by simp)
        ·exact p9 b (Kv _ (ab b (.inl hb)))
       ·refine⟨by simpa using hi,hj,?_,fun k aa=>?_⟩
        ·have:(Zw cs j [D.sl []])[j]?=some (.sl []):=by rw[Qs _ _ _ _ (by simp;omega),Kj (by simp)];simp
         simp only[UQ,LF hi,Zg,Y6,D.cells,this]
        ·cases aa;exact⟨g,a',ys.length,c',rfl,ZJ _ _ _,ag⟩
      ·exact(h.objs k o' aa).mono hk (ZO.refl I w) fun b _=>⟨rfl,fun h=>h⟩
     ·intro k k' o1 o2 b h1 h2 hb1 hb2;have aw:∀ k o',lkp (ins (ins st.hp id (.tree sz ns (xs.set n.toNat (Y6 (.agg cs) j [.sl []])) (some (some st.nx,n.toNat,j)))) st.nx o) k=some o'→Blk (upd Γ st.nx (.row a' ys.length c' ns)) w k o' b →
        (k=st.nx∧b∈al)∨(k=id∧(b=g∨b∈B'))∨(k≠id∧∃ o0,lkp st.hp k=some o0∧Blk Γ w k o0 b):=by
       intro k o' aa hb;rcases av k o' aa with ⟨e1,e2⟩ | ⟨e1,e2⟩ | ⟨e1,e2⟩
       ·rw[e1,e2] at hb;exact .inl ⟨e1,a1 b hb⟩
       ·rw[e1,e2] at hb;exact .inr (.inl ⟨e1,a2 b hb⟩)
       ·exact .inr (.inr ⟨e1,o',e2,hb.back (h.objs k o' e2) (an k o' e2) fun _ _=>rfl⟩)
      rcases aw k o1 h1 hb1 with ⟨e1,g1⟩ | ⟨e1,g1⟩ | ⟨e1,o3,g1,g2⟩<;>rcases aw k' o2 h2 hb2 with ⟨e2,q1⟩ | ⟨e2,q1⟩ | ⟨e2,o4,q1,q2⟩
      ·rw[e1,e2]
      ·rcases q1 with rfl | q1
       ·exact(ai (ab _ (.inr g1))).elim
       ·exact(ah b q1 g1).elim
      ·exact(e2 (h.inj k' id o4 _ b q1 ho q2 (ak b (.inr (ab b (.inr g1)))))).elim
      ·rcases g1 with rfl | g1
       ·exact(ai (ab _ (.inr q1))).elim
       ·exact(ah b g1 q1).elim
      ·rw[e1,e2]
      ·exact(e2 (h.inj k' id o4 _ b q1 ho q2 (ak b (g1.imp (fun e=>e) fun hb=>ab b (.inl hb))))).elim
      ·exact(e1 (h.inj k id o3 _ b g1 ho g2 (ak b (.inr (ab b (.inr q1)))))).elim
      ·exact(e1 (h.inj k id o3 _ b g1 ho g2 (ak b (q1.imp (fun e=>e) fun hb=>ab b (.inl hb))))).elim
      ·exact h.inj k k' o3 o4 b g1 q1 g2 q2
     ·intro k aa;rw[QI _ _ (fun e=>aa (by subst e;simp[UU]))];exact h.names k (fun hu=>aa (by simp[UU] at hu ⊢;omega))
  ·cases h1
 ·cases hl
theorem ZBh {I:Nat→Prop} {Γ:Gh} {w:World} {k nm:Nat} {o:Zk} {ys:List D} (hb:Zp3 k (some o)=some ys) (ho:YF Γ w I F A nm o):∃ a c B,Γ nm=some (.row a ys.length c k)∧Qq w k B (.sl ys) (.slice a ys.length c)∧B.Nodup∧(∀ b∈B,¬I b∧F b)∧∀ b∈B,Blk Γ w nm o b:=by
 unfold Zp3 at hb;split at hb
 ·rename_i k' ab e;cases e;split at hb
  ·rename_i hc;obtain⟨rfl,hf⟩:=hc;cases hb;obtain⟨a,n,c,hg,rfl,h⟩:=ho;rcases h with ⟨h1,rfl⟩ | ⟨g,q0,cur,e,rfl,h1,h2,h3,h4,h5,h6,h7,h8,h9⟩
   ·exact⟨a,0,[],hg,by simp only[Qq];exact⟨a,0,rfl,o_,.inl ⟨rfl,trivial⟩⟩,Lw,fun b hb=>by simp at hb,fun b hb=>by simp at hb⟩
   ·obtain⟨h5,h0⟩:=h5;obtain rfl:=h0 rfl;rw[K8] at h5;refine⟨_,c,[g],hg,by simp only[Qq];exact⟨_,c,rfl,h3,.inr ⟨g,cur,e,[],rfl,h1,h2,h4,h5,h6,rfl,Zmz hf h9⟩⟩,by simp,fun b hb=>?_,fun b hb=>?_⟩
    ·simp at hb;subst hb;exact⟨by simpa using h7,h8⟩
    ·simp at hb;subst hb;exact .inl (by rw[hg];simp[Zz,KE h1])
  ·cases hb
 ·rename_i k' n ab e;cases e;split at hb
  ·rename_i hc;obtain⟨rfl,rfl⟩:=hc;cases hb;obtain⟨a,n,c,hg,⟨rfl,h⟩,_⟩:=ho;rcases h with ⟨h1,rfl,_⟩ | ⟨g,cur,e,B,rfl,h1,h2,h3,h4,h5,h6,h7,h8,h9⟩
   ·exact⟨a,0,[],hg,by simp only[Qq];exact⟨a,0,rfl,o_,.inl ⟨rfl,trivial⟩⟩,Lw,fun b hb=>by simp at hb,fun b hb=>by simp at hb⟩
   ·have aa:Zz (Γ nm)=some g:=by rw[hg];simp[Zz,KE h1]
    refine⟨_,c,g :: B,hg,by simp only[Qq];exact⟨_,c,rfl,h3,.inr ⟨g,cur,e,B,rfl,h1,h2,h4,h5,h6,rfl,h7⟩⟩,h8,h9,fun b hb=>?_⟩;rcases Kd.1 hb with rfl | hb
    ·exact .inl aa
    ·exact .inr (.inl ⟨g,B,aa,h7,hb⟩)
  ·cases hb
 ·cases hb
theorem Sim.shut {I:Nat→Prop} {Γ:Gh} {U:Nat→Prop} {sl:Sl} {hp:Hp} {a:Act} {w:World} (h:Sim nt F A I Γ U sl hp a w) (id nm:Nat):Sim nt F A I Γ U sl (ZzU hp (ZnH hp id nm (lkp hp id))) a w:=by
 cases hs:ZnH hp id nm (lkp hp id) with
 | none=>exact h
 | some hp' =>
  show Sim nt F A I Γ U sl hp' a w;unfold ZnH at hs;split at hs
  ·rename_i sz k xs aa n j hl;split at hs
   ·rename_i e;subst e;obtain⟨ys,h1,hs⟩:=Za hs;obtain⟨ba,h2,hs⟩:=Za hs;cases hs;cases hn:lkp hp aa with
    | none=>rw[hn] at h1;cases h1
    | some o=>
     rw[hn] at h1;obtain⟨a',c',BM,az,hT,ar,al,af⟩:=ZBh h1 (h.objs aa o hn);obtain⟨ad,m,c,hg,⟨hm,hd⟩,hi,hj,a0,a1⟩:=h.objs id _ hl;obtain⟨g,a2,n2,c2,rfl,ag,ab⟩:=a1 aa rfl;rw[az] at ag;cases ag;rcases hd with ⟨_,_,hd⟩ | ⟨g',cur,e,B,ai,p1,p2,p3,p4,p5,p6,p7,p8,p9⟩
     ·cases hd
     ·cases ai;have am:id≠aa:=fun e=>by
       subst e;rw[hl] at hn;cases hn;simp[Zp3] at h1
      obtain⟨x,hx,an⟩:=ZnI a0;simp only[Y4] at p7;obtain⟨vs,_,_,_,_,v1,_,v3,_⟩:=ZY.at p7 hx;cases x with
      | int _ _=>cases j<;>simp[D.cells] at an
      | bool _=>cases j<;>simp[D.cells] at an
      | str _=>cases j<;>simp[D.cells] at an
      | sl _=>simp only[Xn] at v3
      | agg cs=>
       have a3:cs.length=sz:=by have:=v3.cells.length;simp only[D.cells] at this;omega
       have a4:n*sz+sz≤cur.size:=by
        rw[p5,← Nat.succ_mul];exact KM _ o_
       obtain⟨ao,au⟩:=Lj.1 p8;have aj:Zz (Γ id)=some g:=by rw[hg];simp[Zz,KE p1]
       have ap:∀ b,b=g∨b∈B→Blk Γ w id (.tree sz k xs (some (some aa,n,j))) b:=fun b hb=>hb.elim (fun e=>.inl (e ▸ aj)) fun hb=>.inr (.inl ⟨g,B,aj,p7,hb⟩);have ah:∀ b,b=g∨b∈B→b∈BM→False:=fun b hb a5=>am (h.inj id aa _ o b hl hn (ap b hb) (af b a5));rw[Zic p2] at p7;have a6:=setRow_heap w g cur (cur.setIfInBounds (n*sz+j) (.slice none 0 0)) e (0,0) p2;obtain⟨B',_,_,t1,t2,_⟩:=Zio (us:=[.slice a' ys.length c']) (ds:=[.sl ys]) (Bq:=BM) (off:=j) a6 p7 hx a3 (by simp;omega)
        (by simp only[Qd];exact⟨_,[],BM,[],rfl,by simp,hT.mono fun b hb=>setRow_other w g b _ fun e=>ah b (.inl e) hb,rfl,rfl⟩) ao (fun hb=>ah g (.inl rfl) hb) (by simpa using a4)
       rw[setRow_setRow,Kal,Zqv _ _ _ _ _ (by simp;omega),Kj (by simp),Zqf (l:=cur.toList) _ (by rw[K5];omega)] at t1;have ak:∀ b∈B',b∈B∨b∈BM:=fun b hb=>by
        have h1:=t2 b;have h2:=K3.2 hb;rcases Ly (List.count b B) with h3 | h3
        ·exact .inr (K3.1 o_)
        ·exact .inl (K3.1 h3)
       have av:cur.toList[n*sz+j]?=some (.slice a' ys.length c'):=by
        rw[cell_of_row _ _ _ _ _ _ p2] at ab;simpa using ab
       have aq:(cur.toList.set (n*sz+j) (.slice a' ys.length c')).toArray=cur:=by
        have:cur.toList.set (n*sz+j) (.slice a' ys.length c')=cur.toList:=by
         refine LD fun q=>?_;by_cases e:n*sz+j=q
         ·subst e;rw[LF (Kc.1 av).1,av]
         ·rw[Ll e]
        rw[this]
       rw[aq] at t1;have t3:ZY w k B' g sz (xs.set n (.agg (Zw cs j [.sl ys]))) 0:=t1.mono ((setRow_heap w g cur cur e (0,0) p2).symm ▸ p2) fun b hb=>(setRow_other w g b cur fun e=>by
        rcases ak b hb with hb | hb
        ·exact ao (e ▸ hb)
        ·exact ah b (.inl e) hb).symm
       simp only[ZkN,hx,Zg,Option.some.injEq,Y6] at h2;subst h2;have aw:∀ q o',lkp (ins (del hp aa) id (.tree sz k (xs.set n (.agg (Zw cs j [.sl ys]))) none)) q=some o'→(q=id∧o'=.tree sz k (xs.set n (.agg (Zw cs j [.sl ys]))) none)∨(q≠id∧q≠aa∧lkp hp q=some o'):=by
        intro q o' hq;rw[Qg] at hq;split at hq
        ·rename_i e;cases hq;exact .inl ⟨e.symm,rfl⟩
        ·rename_i e;rw[Zfc] at hq;split at hq
         ·cases hq
         ·rename_i e';exact .inr ⟨fun h=>e h.symm,fun h=>e' h.symm,hq⟩
       refine { nt:=h.nt,dfr:=h.dfr,slots:=h.slots,objs:=?_,inj:=?_,bound:=h.bound,fresh:=h.fresh,own:=h.own,names:=h.names,glob:=h.glob }
       ·intro q o' hq;rcases aw q o' hq with ⟨rfl,rfl⟩ | ⟨_,_,hq⟩
        ·refine⟨_,m,c,hg,⟨by simp[hm],.inr ⟨g,cur,e,B',rfl,p1,p2,p3,p4,p5,p6,t3,Lj.2 ⟨fun hb=>(ak g hb).elim ao fun hb=>ah g (.inl rfl) hb,?_⟩,fun b hb=>?_⟩⟩,trivial⟩
         ·rw[L4] at au ar ⊢;intro b;have h1:=t2 b;have h2:=au b;have h3:=ar b;rcases Ly (List.count b B) with h4 | h4
          ·omega
          ·have:List.count b BM=0:=by
            rcases Ly (List.count b BM) with h5 | h5
            ·exact h5
            ·exact(ah b (.inr (K3.1 h4)) (K3.1 h5)).elim
           omega
         ·rcases Kd.1 hb with rfl | hb
          ·exact p9 _ (by simp)
          ·rcases ak b hb with hb | hb
           ·exact p9 b (by simp[hb])
           ·exact al b hb
        ·exact h.objs q o' hq
       ·intro q q' o1 o2 b h1 h2 hb1 hb2;have ax:∀ q o',lkp (ins (del hp aa) id (.tree sz k (xs.set n (.agg (Zw cs j [.sl ys]))) none)) q=some o'→Blk Γ w q o' b →
          (q=id∧(b=g∨b∈B∨b∈BM))∨(q≠id∧q≠aa∧∃ o0,lkp hp q=some o0∧Blk Γ w q o0 b):=by
         intro q o' hq hb;rcases aw q o' hq with ⟨e1,e2⟩ | ⟨e1,e2,e3⟩
         ·rw[e1,e2] at hb;refine .inl ⟨e1,?_⟩;rcases hb with hb | ⟨g',B2,ai,a7,hb⟩ | hb
          ·rw[JE,aj] at hb;cases hb;exact .inl rfl
          ·rw[aj] at ai;cases ai;cases ZY.uniq t3 a7;exact .inr (ak b hb)
          ·exact hb.elim
         ·exact .inr ⟨e1,e2,o',e3,hb⟩
        have ay:∀ q o0,q≠id→q≠aa→lkp hp q=some o0→Blk Γ w q o0 b→(b=g∨b∈B∨b∈BM)→False:=by
         intro q o0 n1 n2 hq hb ae;rcases ae with ae | ae | ae
         ·exact n1 (h.inj q id o0 _ b hq hl hb (ap b (.inl ae)))
         ·exact n1 (h.inj q id o0 _ b hq hl hb (ap b (.inr ae)))
         ·exact n2 (h.inj q aa o0 o b hq hn hb (af b ae))
        rcases ax q o1 h1 hb1 with ⟨e1,g1⟩ | ⟨e1,a8,o3,g1,g2⟩<;>rcases ax q' o2 h2 hb2 with ⟨e2,q1⟩ | ⟨e2,a9,o4,q1,q2⟩
        ·rw[e1,e2]
        ·exact(ay q' o4 e2 a9 q1 q2 g1).elim
        ·exact(ay q o3 e1 a8 g1 g2 q1).elim
        ·exact h.inj q q' o3 o4 b g1 q1 g2 q2
   ·cases hs
  ·cases hs
theorem Sim.melt {I:Nat→Prop} {Γ:Gh} {U:Nat→Prop} {sl:Sl} {hp:Hp} {a:Act} {w:World} (h:Sim nt F A I Γ U sl hp a w):Sim nt F A (ZyV Γ w hp I (ZaB hp)) Γ U sl (Zmg ZkG hp) a w:=
 (h.meltIn (ZaB hp)).sub fun k o hk=>by
  rw[ZgZ] at hk;rw[Ui];cases hl:lkp hp k with
  | none=>rw[hl] at hk;cases hk
  | some o0=>
   have:(ZaB hp).contains k=true:=by
    have aa:∀ (l:Hp),lkp l k=some o0→k∈ZaB l:=by
     intro l
     induction l with
     | nil=>intro h;cases h
     | cons q r ih=>
      intro h;obtain⟨k',o'⟩:=q;simp only[lkp] at h;simp only[ZaB,Kd];split at h
      ·rename_i e;exact .inl e.symm
      ·exact .inr (ih h)
    simpa using aa hp hl
   rw[hl] at hk;simp only[K4,Option.some.injEq] at hk ⊢;rw[this];exact hk
def ZvW (Γ:Gh) (w:World) (hp:Hp) (I:Nat→Prop) (b:Nat):Prop:=I b∨∃ k o,lkp hp k=some o∧Blk Γ w k o b
theorem Sim.peek {I:Nat→Prop} {Γ:Gh} {U:Nat→Prop} {sl:Sl} {hp:Hp} {a:Act} {w:World} (h:Sim nt F A I Γ U sl hp a w) {id:Nat} {o:Zk} (ho:Zp5 (lkp hp id)=some o):Sim nt F A (ZvW Γ w hp I) Γ U sl [(id,o)] a w:=by
 have hk:ZO I (ZvW Γ w hp I) w w:=⟨fun b hb=>.inl hb,fun _ _=>rfl⟩
 have one:∀ k o',lkp [(id,o)] k=some o'→k=id∧o'=o:=fun k o' hl=>by
  simp only[lkp] at hl;split at hl
  ·rename_i e;cases hl;exact⟨e.symm,rfl⟩
  ·cases hl
 refine⟨h.nt,h.dfr,fun t=>(h.slots t).mono (fun _ _ h=>h) hk,fun k o' hl=>?_,fun i j o1 o2 b hi hj _ _=>?_,?_,h.fresh,h.own,h.names,h.glob.mono hk⟩
 ·obtain⟨rfl,rfl⟩:=one k o' hl;unfold Zp5 at ho;split at ho
  ·rename_i s ns xs aa;cases ho;obtain⟨ad,m,c,hg,⟨hm,hd⟩,_⟩:=h.objs _ _ aa;refine⟨ad,m,c,hg,hm,?_⟩;rcases hd with ⟨h1,h2,_⟩ | ⟨g,cur,e,B,rfl,p1,p2,p3,p4,p5,p6,p7,p8,p9⟩
   ·exact .inl ⟨h1,h2⟩
   ·have ab:Zz (Γ k)=some g:=by rw[hg];simp[Zz,KE p1]
    refine .inr ⟨g,0,cur,e,rfl,p1,p2,p3,p4,⟨o_,fun h=>by cases h⟩,p6,?_,(p9 g (by simp)).2,?_⟩
    ·simp only[Kl];exact .inr ⟨k,_,aa,.inl (by rw[JE,ab])⟩
    ·simp only[Ka,Km];exact ZY.rep p7 fun b hb=>.inr ⟨k,_,aa,.inr (.inl ⟨g,B,ab,p7,hb⟩)⟩
  ·cases ho
 ·rw[(one i o1 hi).1,(one j o2 hj).1]
 ·rintro b (hb | ⟨k,o',hl,hb⟩)
  ·exact h.bound b hb
  ·exact h.blk_lt hl hb
theorem ZsX (aa:Sl):∀ (ds:List Nat) (sl:Sl) (t:Nat),gs (ZbS aa ds sl) t=if ds.contains t then Ze6 (gs aa t) else gs sl t
 | [],sl,t=>by simp[ZbS]
 | d :: r,sl,t=>by
  rw[ZbS,ZsX aa r];by_cases h:r.contains t=true
  ·rw[Kj h,Kj (by simp only[List.contains_cons,h,Bool.or_true])]
  ·rw[Ke h];by_cases hd:d=t
   ·subst hd;rw[Kj (by simp)];simp[gs,Qg,ZbE]
   ·rw[Ke (by simp only[List.contains_cons,Lt,not_or,beq_iff_eq];exact⟨fun e=>hd e.symm,h⟩)];simp[gs,Qg,hd]
theorem ZvX {Γ Γ' : Gh} {w w' : World} {I I' : Nat→Prop} {x:AV} {v:Value} (h:Rep Γ w I x v):Rep Γ' w' I' (Ze6 x) v:=by
 unfold Ze6;split
 ·exact Qi.2 (by have:=Qi.1 h;simpa [Xo,ZP] using this)
 ·exact Qi.2 (by have:=Qi.1 h;simpa [Xo,ZP] using this)
 ·exact trivial
theorem Sim.unpeek {I I2:Nat→Prop} {Γ Γ2:Gh} {U U2:Nat→Prop} {sl ab:Sl} {hp ad:Hp} {a a2:Act} {w w2:World} {ds:List Nat} (h:Sim nt F A I Γ U sl hp a w) (hk:ZO (ZvW Γ w hp I) I2 w w2) (hf:Fr F w w2)
  (h2:Sim nt F A I2 Γ2 U2 ab ad a2 w2) (hs:Zeo ds a a2) (hU:∀ id,U id→U2 id):Sim nt F A I Γ U2 (ZbS ab ds sl) hp a2 w2:=by
 have aa:ZO I I w w2:=⟨fun b hb=>hb,fun b hb=>hk.blk b (.inl hb)⟩
 have hb:∀ k o,lkp hp k=some o→∀ b,Blk Γ w k o b→w2.heap[b]?=w.heap[b]?:=fun k o hl b hb=>hk.blk b (.inr ⟨k,o,hl,hb⟩);refine⟨h2.nt,h2.dfr,fun t=>?_,fun k o hl=>(h.objs k o hl).mono (fun _ _ h=>h) aa fun b ae=>⟨hb k o hl b ae,fun h=>h⟩,fun i j o1 o2 b hi hj h1 h3=>?_,fun b hb=>LZ (h.bound b hb) hf.size,h2.fresh,h.own,fun id af=>h.names id fun hu=>af (hU id hu),h.glob.mono aa⟩
 ·rw[ZsX];split
  ·exact ZvX (h2.slots t)
  ·rename_i ht;rw[hs t (by simpa using ht)];exact(h.slots t).mono (fun _ _ h=>h) aa
 ·exact h.inj i j o1 o2 b hi hj ((h1.back (h.objs i o1 hi) rfl (hb i o1 hi))) ((h3.back (h.objs j o2 hj) rfl (hb j o2 hj)))
theorem Zfb {C:Orc} {M:Zq} (hC:QJ P C) (hD:Wm P C M nt) {N:Nat}:∀ (cc:ZM) (c:Code) {st ab : St} {ex:Ex},V3 P nt c=some (X6 cc)→ZG C M N cc st=some (ex,ab) →
  ∀ {I:Nat→Prop} {Γ:Gh} {a:Act} {w:World} {Q:Exit→Act→World→Prop},Sim nt F A I Γ (UU st.nx) st.sl st.hp a w→Ze9 Γ0 Γ st.hp→Zqc Γ0 st.m →
  (∀ a' w',UV nt F A Γ0 I w ab a' w'→Q (exOf ex) a' w')→c.wp P Q a w:=by
 intro cc
 induction cc with
 | skip=>
  intro c st ab ex aa hv I Γ a w Q hS hc hm hQ;obtain rfl:=Wn P nt aa;simp only[ZG] at hv;cases hv;exact wp_skip (hQ _ _ (UV.refl hS hc))
 | region n d ag=>
  intro c st ab ex aa hv I Γ a w Q hS hc hm hQ;obtain⟨id,ops,draw,rfl⟩:=Wn P nt aa;simp only[X6,V3] at aa;obtain⟨os,h1,aa⟩:=Za aa;cases draw with
  | false=>
   simp only[Ka,Km,Option.some.injEq,ZM.region.injEq] at aa;obtain⟨rfl,rfl,rfl⟩:=aa;simp only[Zqb] at h1;simp only[ZG,ZiG] at hv;obtain⟨r,h2,hv⟩:=Za hv;cases hv;refine wp_region ?_;have:=Zqd (F:=F) (A:=A) (Q:=Q) hC ag 0 (Kaj _) (by simpa using h1) h2 (by simpa using hS) (fun a' w' hp _=>hQ a' w' (by
    obtain⟨I',Γ',p1,p2,p3,p4,p5⟩:=hp;exact⟨I',Γ',Vi.cpre p1 hc,p2,p3,p4,by simpa using p5⟩))
   rw[List.range_eq_range'];simpa using this
  | true=>
   simp only[Kl] at aa;split at aa
   ·rename_i ad;simp only[Option.some.injEq,ZM.region.injEq] at aa;obtain⟨rfl,rfl,ah⟩:=aa;simp only[Zqb] at ah;subst ah;simp only[ZG,ZiG] at hv;obtain⟨r,h2,hv⟩:=Za hv;cases hv;unfold ZkM at h2;obtain⟨r',h3,h2⟩:=Za h2;split at h2
    ·rename_i ae;cases h2;exact hD F A Γ0 ops _ st.nx st.m st.sl st.hp r I Γ a w Q id h1 ad h3 ae hS hc (fun a' w' hp _=>hQ a' w' (by simpa using hp))
    ·cases h2
   ·cases aa
 | seq cx cy ihx ihy=>
  intro c st ab ex aa hv I Γ a w Q hS hc hm hQ;obtain⟨x,y,rfl,h1,h2⟩:=Wn P nt aa;simp only[ZG] at hv;cases hx:ZG C M N cx st with
  | none=>rw[hx] at hv;cases hv
  | some q=>
   obtain⟨e1,st1⟩:=q;rw[hx] at hv;refine wp_seq (ihx x h1 hx hS hc hm fun a1 w1 hp=>?_);have al:=ZxC _ _ _ _ hx;cases e1 with
   | normal=>
    simp only[andThen] at hv;obtain⟨I1,Γ1,b1,b2,b3,b4,b5⟩:=hp;exact ihy y h2 hv b5 b1 (by rw[al];exact hm) fun a2 w2 am=>hQ a2 w2 (am.step b2 b3 b4)
   | exit id=>simp only[andThen] at hv;cases hv;exact hQ a1 w1 hp
   | ret=>simp only[andThen] at hv;cases hv;exact hQ a1 w1 hp
 | cond co cx cy ihx ihy=>
  intro c st ab ex aa hv I Γ a w Q hS hc hm hQ;obtain⟨o,x,y,rfl,h0,h1,h2⟩:=Wn P nt aa;simp only[ZG] at hv;have hr:=hS.slOK.ev h0;unfold ZiW at hv;split at hv
  ·rename_i t ht;rw[ht] at hr;have hb:=Zek hr;cases t with
   | true=>simp only[Kl] at hv;exact wp_cond_true hb (ihx x h1 hv hS hc hm hQ)
   | false=>simp only[Ka,Km] at hv;exact wp_cond_false hb (ihy y h2 hv hS hc hm hQ)
  ·cases hv
 | block id cx ih=>
  intro c st ab ex aa hv I Γ a w Q hS hc hm hQ;obtain⟨x,rfl,h1⟩:=Wn P nt aa;simp only[ZG] at hv;cases hx:ZG C M N cx st with
  | none=>rw[hx] at hv;cases hv
  | some q=>
   obtain⟨e1,st1⟩:=q;rw[hx] at hv;refine wp_block (ih x h1 hx hS hc hm fun a1 w1 hp=>?_);cases e1 with
   | normal=>simp only[ZgV] at hv;cases hv;exact hQ a1 w1 hp
   | exit j=>
    simp only[ZgV] at hv;simp only[exOf,Exit.inBlock];split at hv
    ·rename_i hj;cases hv;rw[Kj hj];exact hQ a1 w1 hp
    ·rename_i hj;cases hv;rw[Ke hj];exact hQ a1 w1 hp
   | ret=>simp only[ZgV] at hv;cases hv;exact hQ a1 w1 hp
 | loop cx ih=>
  intro c st ab ex aa hv I Γ a w Q hS hc hm hQ;obtain⟨x,rfl,h1⟩:=Wn P nt aa;simp only[ZG] at hv;generalize ZaB st.sl=K at hv;refine ZzZ (fun n a1 w1=>∃ st1 I1 Γ1,Jz (ZG C M N cx) K n st1=some (ex,ab)∧st1.m=st.m∧Sim nt F A I1 Γ1 (UU st1.nx) st1.sl st1.hp a1 w1∧Ze9 Γ0 Γ1 st1.hp∧ZO I I1 w w1∧(∀ b,I1 b→I b∨F b)∧Fr F w w1)
   ?_ (n:=N) ⟨st,I,Γ,hv,rfl,hS,hc,ZO.refl I w,fun _ h=>.inl h,Fr.refl F w⟩
  rintro n a1 w1 ⟨st1,I1,Γ1,j1,j2,j3,j4,j5,j6,j7⟩
  cases n with
  | zero=>simp only[Jz] at j1;cases j1
  | succ n=>
   simp only[Jz] at j1;obtain⟨Γ2,k1,k2⟩:=ZzY j3 j4 (by rw[j2];exact hm) K;cases hx:ZG C M N cx (Ut K st1) with
   | none=>rw[hx] at j1;cases j1
   | some q=>
    obtain⟨e1,aj⟩:=q;rw[hx] at j1;have an:aj.m=st1.m:=(ZxC _ _ _ _ hx).trans rfl;refine ih x h1 hx k1 k2 (by show Zqc Γ0 st1.m;rw[j2];exact hm) fun a2 w2 hp=>?_;obtain⟨I3,Γ3,b1,b2,b3,b4,b5⟩:=hp;have af:∀ b,I3 b→I b∨F b:=fun b hb=>by
     rcases b3 b hb with h | h
     ·exact j6 b h
     ·exact .inr h
    cases e1 with
    | normal=>exact⟨n,Nat.lt_succ_self n,aj,I3,Γ3,j1,by rw[an,j2],b5,b1,j5.trans b2,af,j7.trans b4⟩
    | exit id=>
     simp only at j1;cases j1;exact hQ a2 w2 ⟨I3,Γ3,b1,j5.trans b2,af,j7.trans b4,b5⟩
    | ret=>
     simp only at j1;cases j1;exact hQ a2 w2 ⟨I3,Γ3,b1,j5.trans b2,af,j7.trans b4,b5⟩
 | exit id=>
  intro c st ab ex aa hv I Γ a w Q hS hc hm hQ;obtain rfl:=Wn P nt aa;simp only[ZG] at hv;cases hv;exact wp_exit (hQ _ _ (UV.refl hS hc))
 | ret=>
  intro c st ab ex aa hv I Γ a w Q hS hc hm hQ;obtain rfl:=Wn P nt aa;simp only[ZG] at hv;cases hv;exact wp_ret (hQ _ _ (UV.refl hS hc))
 | stuck=>
  intro c st ab ex aa hv I Γ a w Q hS hc hm hQ;simp only[ZG] at hv;cases hv
 | link fl id i j cx ih=>
  intro c st ab ex aa hv I Γ a w Q hS hc hm hQ;simp only[ZG] at hv;obtain⟨st1,h1,hv⟩:=Za hv;obtain⟨Γ1,k1,k2,k3⟩:=hS.link hc h1;cases hx:ZG C M N cx st1 with
  | none=>rw[hx] at hv;cases hv
  | some q=>
   obtain⟨e1,aj⟩:=q;rw[hx] at hv;simp only[Zp4] at hv;cases hv;refine ih c aa hx k1 k2 (by rw[k3];exact hm) fun a1 w1 hp=>hQ a1 w1 ?_;obtain⟨I',Γ',b1,b2,b3,b4,b5⟩:=hp;exact⟨I',Γ',b1,b2,b3,b4,b5.shut id st.nx⟩
 | melt cx ih=>
  intro c st ab ex aa hv I Γ a w Q hS hc hm hQ;simp only[ZG] at hv;refine ih c aa hv hS.melt hc hm fun a1 w1 hp=>hQ a1 w1 (hp.step ⟨fun b hb=>.inl hb,fun _ _=>rfl⟩ ?_ (Fr.refl F w))
  rintro b (hb | ⟨id,_,o,hl,_,hi⟩)
  ·exact .inl hb
  ·exact .inr (ZkU (hS.objs id o hl) (.inr (.inl hi)))
 | peek id cx ih=>
  intro c st ab ex aa hv I Γ a w Q hS hc hm hQ;simp only[ZG] at hv;obtain⟨ds,ai,hv⟩:=Za hv;obtain⟨st1,h1,hv⟩:=Za hv;unfold Zmm at h1;obtain⟨o,ho,h1⟩:=Za h1;cases h1;unfold ZvP at ai;split at ai
  ·rename_i ag _ _;cases ai;obtain⟨ao,ops,draw,rfl⟩:=Wn P nt aa;simp only[X6,V3] at aa;obtain⟨os,h1,aa⟩:=Za aa;have ak:∀ (r:Sl×Hp) (a' : Act) (w' : World),UV nt F A Γ0 (ZvW Γ w st.hp I) w { sl:=r.1,hp:=r.2,nx:=st.nx+64*ops.size,m:=st.m } a' w'→Zeo (UT ag) a a' →
     UV nt F A Γ0 I w { sl:=ZbS r.1 (UT ag) st.sl,hp:=st.hp,nx:=st.nx+64*ops.toList.length,m:=st.m } a' w':=fun r a' w' hp hs=>by
    obtain⟨I',Γ',p1,p2,p3,p4,p5⟩:=hp;exact⟨I,Γ,hc,⟨fun b hb=>hb,fun b hb=>p2.blk b (.inl hb)⟩,fun b hb=>.inl hb,p4,hS.unpeek p2 p4 (by simpa using p5) hs (ZyP (Nat.le_add_right _ _))⟩
   cases draw with
   | true=>
    simp only[Kl] at aa;split at aa
    ·rename_i ad;simp only[Option.some.injEq,ZM.region.injEq] at aa;obtain⟨rfl,rfl,ah⟩:=aa;simp only[Zqb] at ah;subst ah;simp only[ZG,ZiG] at hv;cases h2:ZkM os (JK ops os) (Us C (X5 M) st.nx 0 false os st.sl [(id,o)]) with
     | none=>rw[h2] at hv;cases hv
     | some r=>
      rw[h2] at hv;simp only[Zg,Zp6] at hv;cases hv;unfold ZkM at h2;obtain⟨r',h3,h2⟩:=Za h2;split at h2
      ·rename_i ae;cases h2;exact hD F A Γ0 ops _ st.nx st.m st.sl [(id,o)] r (ZvW Γ w st.hp I) Γ a w Q ao h1 ad h3 ae (hS.peek ho) hc (fun a' w' hp hs=>hQ a' w' (ak r a' w' hp hs))
      ·cases h2
    ·cases aa
   | false=>
    simp only[Ka,Km,Option.some.injEq,ZM.region.injEq] at aa;obtain⟨rfl,rfl,rfl⟩:=aa;simp only[Zqb] at h1;simp only[ZG,ZiG] at hv;cases h2:Ze3 C M st.nx 0 ag st.sl [(id,o)] with
    | none=>rw[h2] at hv;cases hv
    | some r=>
     rw[h2] at hv;simp only[Zg,Zp6] at hv;cases hv;refine wp_region ?_;have:=Zqd (F:=F) (A:=A) (Q:=Q) hC ag 0 (Kaj _) (by simpa using h1) h2 (by simpa using hS.peek ho) (fun a' w' hp hs=>hQ a' w' (ak r a' w' (by
      obtain⟨I',Γ',p1,p2,p3,p4,p5⟩:=hp;exact⟨I',Γ',Vi.cpre p1 hc,p2,p3,p4,p5⟩) hs))
     rw[List.range_eq_range'];simpa using this
  ·cases ai
 | keep K cx ih=>
  intro c st ab ex aa hv I Γ a w Q hS hc hm hQ;simp only[ZG] at hv;cases hx:ZG C M N cx st with
  | none=>rw[hx] at hv;cases hv
  | some q=>
   obtain⟨e1,st1⟩:=q;rw[hx] at hv;simp only[Zp2] at hv;cases hv;exact ih c aa hx hS hc hm fun a1 w1 hp=>hQ a1 w1 (hp.only K)
end
end Go.Abs
