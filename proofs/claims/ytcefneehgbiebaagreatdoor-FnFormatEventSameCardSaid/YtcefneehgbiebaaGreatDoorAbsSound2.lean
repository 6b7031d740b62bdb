/- Own text. -/
import Derived.Test.YtcefneehgbiebaaGreatDoorAbsSound
set_option linter.unusedVariables false
set_option linter.unusedSimpArgs false
namespace Go.Abs
open Go
section
variable {P:Program} {nt:Nat} {F A:Nat→Prop} {Γ0:Gh}
def Zas (n:Nat):Nat→Prop:=fun id=>id<n
theorem ZkT (n:Nat):Xk (Zas n) n:=fun id h _ hu=>by simp only[Zas] at hu;omega
theorem ZkU {n:Nat}:∀ id,JJ (Zas n) n id→Zas (n+64) id:=fun id h=>by
 simp only[JJ,Zas] at h ⊢;omega
theorem ZBc {n m:Nat} (h:n≤m):∀ id,Zas n id→Zas m id:=fun id hu=>by simp only[Zas] at hu ⊢;omega
def Zfq (Γ0 Γ:Gh) (hp:Hp):Prop:=∀ k b,Γ0 k=some (.box b)→Γ k=some (.box b)∧∃ cs,lkp hp k=some (.box cs)
def Zav (nt:Nat) (F A:Nat→Prop) (Γ0:Gh) (I:Nat→Prop) (w:World) (st' : St) (a' : Act) (w' : World):Prop:=
 ∃ I' Γ',Zfq Γ0 Γ' st'.hp∧ZP I I' w w'∧(∀ b,I' b→I b∨F b)∧Fr F w w'∧Sim nt F A I' Γ' (Zas st'.nx) st'.sl st'.hp a' w'
theorem Zav.refl {I:Nat→Prop} {Γ:Gh} {st:St} {a:Act} {w:World} (h:Sim nt F A I Γ (Zas st.nx) st.sl st.hp a w) (hc:Zfq Γ0 Γ st.hp):Zav nt F A Γ0 I w st a w:=
 ⟨I,Γ,hc,ZP.refl I w,fun _ h=>.inl h,Fr.refl F w,h⟩
theorem Zav.step {I I1:Nat→Prop} {w w1 w' : World} {aa : St} {a' : Act} (hk:ZP I I1 w w1) (hs:∀ b,I1 b→I b∨F b) (hf:Fr F w w1) (h:Zav nt F A Γ0 I1 w1 aa a' w'):Zav nt F A Γ0 I w aa a' w':=by
 obtain⟨I',Γ',h1,h2,h3,h4,h5⟩:=h;refine⟨I',Γ',h1,hk.trans h2,fun b hb=>?_,hf.trans h4,h5⟩;rcases h3 b hb with h6 | h6
 ·exact hs b h6
 ·exact .inr h6
theorem UD.cpre {Γ Γ' : Gh} {hp hp' : Hp} (hg:∀ id b,Γ id=some (.box b)→Γ' id=some (.box b)) {n:Nat} (hb:Xb hp hp' n) (hc:Zfq Γ0 Γ hp) (aa:∀ id o,lkp hp id=some o→id<n):Zfq Γ0 Γ' hp':=by
 intro k b hk;obtain⟨h1,cs,h2⟩:=hc k b hk;exact⟨hg k b h1,hb k cs (aa k _ h2) h2⟩
theorem ZuX {I:Nat→Prop} {Γ:Gh} {U:Nat→Prop} {sl:Sl} {hp:Hp} {a:Act} {w:World} (h:Sim nt F A I Γ U sl hp a w) {ops:Array Oper} {o:Oper} {g:Option (Nat×Bool)} (hg:Zoc ops.toList o.guard=some g)
  {b:Bool} (hw:Z3 sl g=some b):Region.wanted o (yielded ops a.tmps)=b:=by
 unfold Region.wanted;cases ho:o.guard with
 | none=>
  rw[ho] at hg;simp only[Zoc] at hg;cases hg;simp only[Z3] at hw;cases hw;rfl
 | some q=>
  rw[ho] at hg;simp only[Zoc] at hg;obtain⟨g',h1,hg⟩:=Za hg;obtain⟨t,h2,hg⟩:=Za hg;cases hg;simp only[Z3] at hw;have hr:=h.slots t;have ad : ops[q.1]?=some g':=by simpa using h1
  have hy:yielded ops a.tmps q.1=match a.tmps[t]? with
   | some (.bool b)=>some b
   | _=>none:=by unfold yielded;rw[ad];simp only[KI,h2];rfl
  unfold Zfi at hw;split at hw
  ·rename_i b' aa;cases hw;rw[aa] at hr;have h3:=Zen hr;have h4:a.tmps[t]?=some (.bool b'):=by
    cases ht:a.tmps[t]? with
    | none=>simp[ht,undef] at h3
    | some v=>simp[ht] at h3;rw[h3]
   obtain⟨qj,qw⟩:=q;simp only at hy ⊢;rw[hy,h4];cases b' <;> cases qw<;>rfl
  ·rename_i aa;cases hw;rw[aa] at hr;obtain⟨us,h3,h4⟩:=hr;have h5:∀ b',a.tmps[t]?≠some (.bool b'):=by
    intro b' ab;simp[ab] at h3
   obtain⟨qj,qw⟩:=q;simp only at hy ⊢;rw[hy];cases ht:a.tmps[t]? with
   | none=>rfl
   | some v=>
    cases v<;>first | rfl | (exfalso;exact h5 _ ht)
  ·cases hw
theorem ZkV {Γ:Gh} {w:World} {I:Nat→Prop}:Rep Γ w I (.tup []) undef:=⟨#[],rfl,trivial⟩
theorem ZiP {ops:List Oper} {o:Oper} {co:CO} (h:Zl0 P nt ops o=some co):Zoc ops o.guard=some co.guard∧UY (cOp P o.type o.op)=co.op∧Q7 nt o.dst=true∧co.dst=o.dst:=by
 unfold Zl0 at h;obtain⟨g,h1,h⟩:=Za h;split at h
 ·cases h;exact⟨h1,rfl,by assumption,rfl⟩
 ·cases h
theorem Q3 {base:Nat} {dst:Option Nat} {sl:Sl} {hp:Hp} {e:Option Zd} {r:Sl×Hp} (h:YH base dst sl hp e=some r):∃ ce,e=some ce∧QT base (base+64) ce.eff.adds=true∧r=ce.on dst sl hp:=by
 unfold YH at h;obtain⟨ce,h1,h⟩:=Za h;split at h
 ·cases h;exact⟨ce,h1,by assumption,rfl⟩
 ·cases h
theorem ZzW {ops:Array Oper} {i:Nat} {o:Oper} {aa:List Oper} (h:ops.toList.drop i=o :: aa):ops[i]?=some o∧ops.toList.drop (i+1)=aa∧i<ops.size:=by
 have h1:(ops.toList.drop i)[0]?=some o:=by rw[h];rfl
 rw[Lf] at h1;have h2:ops[i]?=some o:=by simpa using h1
 refine⟨h2,?_,(KN.1 h2).1⟩;rw[← List.drop_drop,h];rfl
theorem ZwG {C:Orc} {M:Zn} (hC:QK P C) (hB:Wn C) {ops:Array Oper} {Q:Exit→Act→World→Prop} {nx m:Nat} :
  ∀ (os:List CO) (i:Nat) {sl:Sl} {hp:Hp} {r:Sl×Hp} {I:Nat→Prop} {Γ:Gh} {a:Act} {w:World},i≤ops.size→QF (Zl0 P nt ops.toList) (ops.toList.drop i)=some (ZkR os)→ZeD C M nx i os sl hp=some r →
   Sim nt F A I Γ (Zas (nx+64*i)) sl hp a w→Zfq Γ0 Γ hp→(∀ a' w',Zav nt F A Γ0 I w { sl:=r.1,hp:=r.2,nx:=nx+64*ops.size,m:=m } a' w'→Q .normal a' w') →
   wpOps P ops Q (List.range' i (ops.size-i)) a w:=by
 intro os
 induction os with
 | nil=>
  intro i sl hp r I Γ a w ag aa hv hS hc hQ;have hd:ops.toList.drop i=[]:=by
   cases hd:ops.toList.drop i with
   | nil=>rfl
   | cons o rest=>
    rw[hd] at aa;simp only[QF] at aa;obtain⟨_,_,aa⟩:=Za aa;obtain⟨_,_,aa⟩:=Za aa;simp[ZkR] at aa
  have hi:ops.size≤i:=by
   have:=List.drop_eq_nil_iff.1 hd;simpa using this
  have am:i=ops.size:=by omega
  subst am;rw[show ops.size-ops.size=0 by omega];simp only[ZeD] at hv;cases hv;simp only[List.range',wpOps];exact hQ a w (Zav.refl (st := { sl:=sl,hp:=hp,nx:=nx+64*ops.size,m:=m }) hS hc)
 | cons co os ih=>
  intro i sl hp r I Γ a w ag aa hv hS hc hQ;cases hd:ops.toList.drop i with
  | nil=>rw[hd] at aa;simp[QF,ZkR] at aa
  | cons o rest=>
   obtain⟨ho,ad,an⟩:=ZzW hd;rw[hd] at aa;simp only[QF] at aa;obtain⟨ao,h1,aa⟩:=Za aa;obtain⟨ap,h2,aa⟩:=Za aa;simp only[ZkR,Option.some.injEq,List.cons.injEq] at aa;obtain⟨rfl,rfl⟩:=aa;obtain⟨hg,ai,ae,aj⟩:=ZiP h1;dsimp only at hg ai aj;rw[show ops.size-i=(ops.size-(i+1))+1 by omega,List.range'_succ];simp only[ZeD] at hv;obtain⟨b,hw,hv⟩:=Za hv;have af:=ZuX hS hg hw;simp only[wpOps,ho,af];rw[aj] at hv;cases b with
   | true=>
    simp only[Km] at hv ⊢;obtain⟨q,hq,hv⟩:=Za hv;obtain⟨ce,ak,al,rfl⟩:=Q3 hq;refine .inl (ZAN hC hS ai (ZkT _) ae al ak _ _ fun u w' hp'=>?_);obtain⟨I1,Γ1,b1,b2,b3,b4,b5⟩:=hp';refine ih (i+1) (by omega) (by rw[ad];exact h2) hv (by rw[show nx+64*(i+1)=nx+64*i+64 by omega];exact b5.more ZkU) (UD.cpre b1 (n:=nx+64*i) ((Zfp hB ak).keeps al o.dst sl) hc fun id o hl=>hS.id_in hl) fun a' ah ab=>hQ a' ah (ab.step b2 b3 b4)
   | false=>
    simp only[Ka,Ko] at hv ⊢;obtain⟨I1,Γ1,b1,b2,b3,b4,b5⟩:=hS.pure (U':=Zas (nx+64*(i+1))) (v:=.tup []) (u:=undef) (dst:=o.dst) (ZBc (by omega)) ZkV ae;exact ih (i+1) (by omega) (by rw[ad];exact h2) hv b5 (UD.cpre b1 (Xb.refl hp (nx+64*i)) hc fun id o hl=>hS.id_in hl) fun a' ah ab=>hQ a' ah (ab.step b2 b3 b4)
theorem ZjL {hp:Hp} {ids:List Nat}:∀ {l:List Nat} {i:Nat},i∈l→i∉ZgH hp ids l→ZdL hp ids i=true
 | [],i,h,_=>by simp at h
 | x :: r,i,h,hn=>by
  simp only[ZgH] at hn;cases hl:ZdL hp ids x with
  | true=>
   rw[hl] at hn;simp only[Km] at hn;rcases Kf.1 h with rfl | h
   ·exact hl
   ·exact ZjL h hn
  | false=>
   rw[hl] at hn;simp only[Ka,Ko,Kf,not_or] at hn;rcases Kf.1 h with rfl | h
   ·exact absurd rfl hn.1
   ·exact ZjL h hn.2
def ZbD (hp:Hp) (ids:List Nat) (Γ:Gh):Gh:=fun k=>match ids[k]? with
 | some id=>if JL (lkp hp id) then Γ id else some (.row none 0 0 0)
 | none=>none
theorem ZrU {hp:Hp} {ids:List Nat} {Γ:Gh} {id:Nat} (h:ZdL hp ids id=true):ZbD hp ids Γ (Wr ids id)=Γ id:=by
 simp only[ZdL,Ke,KQ,Kn] at h;simp only[ZbD,(Zjd h.1).2,h.2,Km]
section
variable {I:Nat→Prop} {Γ:Gh} {U:Nat→Prop} {sl:Sl} {hp:Hp} {a:Act} {w:World}
theorem Zoy (ids:List Nat) {x:AV} {v:Value} (h:Rep Γ w I x v):Rep (ZbD hp ids Γ) w I (ZeE hp ids x) v:=by
 refine Znl (fun id aa r hr=>?_) (ZP.refl I w) (Zt3 (bad:=ZgH hp ids (ZB x)) h);obtain⟨h1,h2⟩:=Zku _ _ id aa;rw[ZrU (ZjL h1 h2)];exact hr
theorem ZzX {ids:List Nat} {k id:Nat} (hk:ids[k]?=some id) {o:Zl} (hl:lkp hp id=some o) (ho:VY Γ w I F A id o):VY (ZbD hp ids Γ) w I F A k (ZgI hp ids o):=by
 have hG:ZbD hp ids Γ k=Γ id:=by simp[ZbD,hk,hl,JL]
 cases o with
 | box cs=>
  obtain⟨b,cur,e,h1,h2,h3,h4,h5,ab⟩:=ho;refine⟨b,cur,e,by rw[hG,h1],h2,h3,h4,?_,(ab.map (Jb _)).map (Zci _)⟩;have h6:Zt (XJ Γ w I) (cs.map (ZT (ZgH hp ids (Zbe (.box cs))))) cur.toList:=h5.map_left fun _ _ h=>Zks h;refine Zeg (fun ae aa r hr=>?_) (ZP.refl I w) h6;obtain⟨y,hy,aa⟩:=Kv.1 aa;obtain⟨x,hx,rfl⟩:=K5.1 hy;obtain⟨h7,h8⟩:=Ze2 _ x ae aa;rw[ZrU (ZjL (Kv.2 ⟨x,hx,h7⟩) h8)];exact hr
 | row sz xs ex fz=>
  obtain⟨ad,n,c,h1,h2⟩:=ho;exact⟨ad,n,c,by rw[hG,h1],h2⟩
 | deep sz ns xs lk=>
  obtain⟨ad,n,c,h1,h2,_⟩:=ho;exact⟨ad,n,c,by rw[hG,h1],h2,trivial⟩
theorem ZwH (h:Sim nt F A I Γ U sl hp a w) {ids:List Nat} (ae:ids.Nodup) :
  ZaA (ZbD hp ids Γ) w I F A (Vu 0 ((Zcw hp ids).map (ZgI hp ids))) ∧
  (∀ i j o o' b,lkp (Vu 0 ((Zcw hp ids).map (ZgI hp ids))) i=some o→lkp (Vu 0 ((Zcw hp ids).map (ZgI hp ids))) j=some o'→Blk (ZbD hp ids Γ) w i o b→Blk (ZbD hp ids Γ) w j o' b→i=j) ∧
  (∀ id,ids.length≤id→ZbD hp ids Γ id=none):=by
 have get:∀ k o,lkp (Vu 0 ((Zcw hp ids).map (ZgI hp ids))) k=some o→∃ id,ids[k]?=some id∧o=ZgI hp ids (Zjv (lkp hp id)):=by
  intro k o hk;rw[Y7] at hk;simp only[LJ,Km,LY,KS,Zcm,Option.map_map] at hk;cases hi:ids[k]? with
  | none=>rw[hi] at hk;cases hk
  | some id=>
   rw[hi] at hk;simp only[KJ,Option.some.injEq,Function.comp_apply] at hk;exact⟨id,rfl,hk.symm⟩
 refine⟨fun k o hk=>?_,fun i j o o' b hi hj ab ad=>?_,fun id af=>?_⟩
 ·obtain⟨id,h1,rfl⟩:=get k o hk;cases hl:lkp hp id with
  | none=>exact⟨none,0,0,by simp[ZbD,h1,hl,JL],rfl,.inl ⟨rfl,rfl⟩⟩
  | some o0=>exact ZzX h1 hl (h.objs id o0 hl)
 ·obtain⟨id,h1,rfl⟩:=get i o hi;obtain⟨aa,h2,rfl⟩:=get j o' hj;have bk:∀ (k id:Nat) (o0:Zl),ZbD hp ids Γ k=Γ id→Blk (ZbD hp ids Γ) w k (ZgI hp ids o0) b→Blk Γ w id o0 b:=by
   intro k id o0 e hb;rcases hb with hb | hb | hb
   ·exact .inl (e ▸ hb)
   ·cases o0 with
    | box cs=>exact False.elim hb
    | row sz xs ex fz=>exact False.elim hb
    | deep sz ns xs lk=>obtain⟨g,p,h5,h6⟩:=hb;exact .inr (.inl ⟨g,p,e ▸ h5,h6⟩)
   ·cases o0 with
    | box cs=>exact .inr (.inr ((Buf.unmap (Jb _) (Buf.unmap (Zci _) hb)).ren e.symm))
    | row sz xs ex fz=>exact False.elim hb
    | deep sz ns xs lk=>exact False.elim hb
  cases hl:lkp hp id with
  | none=>exact(ab.nil (by simp[ZbD,h1,hl,JL,Zy])).elim
  | some o0=>
   cases hl' : lkp hp aa with
   | none=>exact(ad.nil (by simp[ZbD,h2,hl',JL,Zy])).elim
   | some o1=>
    have e1:ZbD hp ids Γ i=Γ id:=by simp[ZbD,h1,hl,JL]
    have e2:ZbD hp ids Γ j=Γ aa:=by simp[ZbD,h2,hl',JL]
    rw[hl] at ab;rw[hl'] at ad;have:=h.inj id aa o0 o1 b hl hl' (bk i id o0 e1 ab) (bk j aa o1 e2 ad);subst this;exact Zrr ae h1 h2
 ·simp[ZbD,KR af]
theorem JN (hp:Hp):∀ (n:Nat) (todo aa:List Nat),∃ t,QL hp n todo aa=aa++t
 | 0,todo,aa=>⟨[],by simp[QL]⟩
 | n+1,[],aa=>⟨[],by simp[QL]⟩
 | n+1,id :: todo,aa=>by
  simp only[QL];split
  ·exact JN hp n todo aa
  ·cases lkp hp id with
   | none=>simp only[JC];exact JN hp n todo aa
   | some o=>
    simp only[JC];obtain⟨t,ht⟩:=JN hp n (todo++Zbe o) (aa++[id]);exact⟨id :: t,by rw[ht];simp⟩
theorem ZgM {hp:Hp} {n m:Nat} {todo:List Nat} {k:Nat} (hk:k<m):(QL hp n todo (List.range m))[k]?=some k:=by
 obtain⟨t,ht⟩:=JN hp n todo (List.range m);rw[ht,K4 (by simpa using hk)];simp[hk]
theorem ZrV {n m:Nat} {todo:List Nat} (hc:Zfq Γ0 Γ hp) (hm:∀ k,m≤k→Γ0 k=none) :
  Zfq Γ0 (ZbD hp (QL hp n todo (List.range m)) Γ) (Vu 0 ((Zcw hp (QL hp n todo (List.range m))).map (ZgI hp (QL hp n todo (List.range m))))):=by
 intro k b hk;have aa:k<m:=by
  rcases KT k m with h | h
  ·exact h
  ·rw[hm k h] at hk;cases hk
 obtain⟨h1,cs,h2⟩:=hc k b hk;have h3:=ZgM (hp:=hp) (n:=n) (todo:=todo) aa;refine⟨by simp[ZbD,h3,h2,JL,h1],?_⟩;rw[Y7];simp only[LJ,Km,LY,KS,Zcm,h3,KJ,h2,Zjv];exact⟨_,rfl⟩
theorem ZjM {α:Type} (K:List Nat):∀ (l:List (Nat×α)) (t:Nat),lkp (only K l) t=if K.contains t then lkp l t else none
 | [],t=>by simp[only,lkp]
 | (k,v) :: r,t=>by
  simp only[only];by_cases hk:K.contains k=true
  ·rw[Ki hk];simp only[lkp,ZjM K r];by_cases aa:k=t
   ·subst aa;simp only[Km,hk]
   ·simp only[Kd aa]
  ·rw[Kd hk,ZjM K r];simp only[lkp];by_cases aa:k=t
   ·subst aa;simp only[Km];rw[Kd hk,Kd hk]
   ·simp only[Kd aa]
end
theorem ZyL {I:Nat→Prop} {Γ:Gh} {st:St} {a:Act} {w:World} (h:Sim nt F A I Γ (Zas st.nx) st.sl st.hp a w) (hc:Zfq Γ0 Γ st.hp) (hm:∀ k,st.m≤k→Γ0 k=none) (K:List Nat) :
  ∃ Γ',Sim nt F A I Γ' (Zas (Ww K st).nx) (Ww K st).sl (Ww K st).hp a w∧Zfq Γ0 Γ' (Ww K st).hp:=by
 have aa:=(Zbf st.hp (Q9 st.hp) (Zou (only K st.sl)++Wv st.hp (List.range st.m)) (List.range st.m) List.nodup_range).1;obtain⟨h1,h2,h3⟩:=ZwH h aa;refine⟨ZbD st.hp (QL st.hp (Q9 st.hp) (Zou (only K st.sl)++Wv st.hp (List.range st.m)) (List.range st.m)) Γ,
  { nt:=h.nt,dfr:=h.dfr,slots:=fun t=>?_,objs:=h1,inj:=h2,bound:=h.bound,fresh:=h.fresh,own:=h.own,names:=fun id ab=>h3 id (Nat.le_of_not_lt ab),glob:=h.glob },ZrV hc hm⟩
 show Rep _ w I (gs (ZhY _ (only K st.sl)) t) _;simp only[gs,ZcL,ZjM];have hs:=h.slots t;simp only[gs] at hs;by_cases hK:K.contains t=true
 ·rw[Ki hK];cases hl:lkp st.sl t with
  | none=>exact trivial
  | some v=>rw[hl] at hs;exact Zoy _ hs
 ·rw[Kd hK];exact trivial
end
end Go.Abs
