/- The abstract semantics and the model: codes. Own text. -/
import Derived.Test.YtkdjbefmiiibpaaGreatDoorAbsSound
set_option linter.unusedVariables false
set_option linter.unusedSimpArgs false
namespace Go.Abs
open Go
section
variable {P:Program} {nt:Nat} {F A:Nat→Prop} {Γ0:Gh}
def Zbz (n:Nat):Nat→Prop:=fun id=>id<n
theorem ZmS (n:Nat):Yd (Zbz n) n:=fun id h _ hu=>by simp only[Zbz] at hu;omega
theorem ZmT {n:Nat}:∀ id,Za3 (Zbz n) n id→Zbz (n+64) id:=fun id h=>by
 simp only[Za3,Zbz] at h ⊢;omega
theorem ZC6 {n m:Nat} (h:n≤m):∀ id,Zbz n id→Zbz m id:=fun id hu=>by simp only[Zbz] at hu ⊢;omega
def ZhC (Γ0 Γ:Gh) (hp:Hp):Prop:=∀ k b,Γ0 k=some (.box b)→Γ k=some (.box b)∧∃ cs,lkp hp k=some (.box cs)
def ZbA (nt:Nat) (F A:Nat→Prop) (Γ0:Gh) (I:Nat→Prop) (w:World) (st' : St) (a' : Act) (w' : World):Prop:=
 ∃ I' Γ',ZhC Γ0 Γ' st'.hp∧Z3 I I' w w'∧(∀ b,I' b→I b∨F b)∧Fr F w w'∧Sim nt F A I' Γ' (Zbz st'.nx) st'.sl st'.hp a' w'
theorem ZbA.refl {I:Nat→Prop} {Γ:Gh} {st:St} {a:Act} {w:World} (h:Sim nt F A I Γ (Zbz st.nx) st.sl st.hp a w) (hc:ZhC Γ0 Γ st.hp):ZbA nt F A Γ0 I w st a w:=
 ⟨I,Γ,hc,Z3.refl I w,fun _ h=>.inl h,Fr.refl F w,h⟩
theorem ZbA.step {I I1:Nat→Prop} {w w1 w' : World} {st' : St} {a' : Act} (hk:Z3 I I1 w w1) (hs:∀ b,I1 b→I b∨F b) (hf:Fr F w w1) (h:ZbA nt F A Γ0 I1 w1 st' a' w'):ZbA nt F A Γ0 I w st' a' w':=by
 obtain⟨I',Γ',h1,h2,h3,h4,h5⟩:=h
 refine⟨I',Γ',h1,hk.trans h2,fun b hb=>?_,hf.trans h4,h5⟩
 rcases h3 b hb with h6 | h6
 ·exact hs b h6
 ·exact .inr h6
theorem JX.cpre {Γ Γ' : Gh} {hp hp' : Hp} (hg:∀ id b,Γ id=some (.box b)→Γ' id=some (.box b)) {n:Nat} (hb:XQ hp hp' n) (hc:ZhC Γ0 Γ hp) (hlt:∀ id o,lkp hp id=some o→id<n):ZhC Γ0 Γ' hp':=by
 intro k b hk
 obtain⟨h1,cs,h2⟩:=hc k b hk
 exact⟨hg k b h1,hb k cs (hlt k _ h2) h2⟩
theorem Zu3 {I:Nat→Prop} {Γ:Gh} {U:Nat→Prop} {sl:Sl} {hp:Hp} {a:Act} {w:World} (h:Sim nt F A I Γ U sl hp a w) {ops:Array Oper} {o:Oper} {g:Option (Nat×Bool)} (hg:Zpk ops.toList o.guard=some g)
  {b:Bool} (hw:Qe sl g=some b):Region.wanted o (yielded ops a.tmps)=b:=by
 unfold Region.wanted
 cases ho:o.guard with
 | none=>
  rw[ho] at hg
  simp only[Zpk] at hg
  cases hg
  simp only[Qe] at hw
  cases hw
  rfl
 | some q=>
  rw[ho] at hg
  simp only[Zpk] at hg
  obtain⟨g',h1,hg⟩:=Za hg
  obtain⟨t,h2,hg⟩:=Za hg
  cases hg
  simp only[Qe] at hw
  have hr:=h.slots t
  have h1' : ops[q.1]?=some g':=by simpa using h1
  have hy:yielded ops a.tmps q.1=match a.tmps[t]? with
   | some (.bool b)=>some b
   | _=>none:=by unfold yielded;rw[h1'];simp only[Option.bind_some,h2];rfl
  unfold Zhu at hw
  split at hw
  ·rename_i b' hb'
   cases hw
   rw[hb'] at hr
   have h3:=Zgu hr
   have h4:a.tmps[t]?=some (.bool b'):=by
    cases ht:a.tmps[t]? with
    | none=>simp[ht,undef] at h3
    | some v=>simp[ht] at h3;rw[h3]
   obtain⟨qj,qw⟩:=q
   simp only at hy ⊢
   rw[hy,h4]
   cases b' <;> cases qw<;>rfl
  ·rename_i hb'
   cases hw
   rw[hb'] at hr
   obtain⟨us,h3,h4⟩:=hr
   have h5:∀ b',a.tmps[t]?≠some (.bool b'):=by
    intro b' hb''
    simp[hb''] at h3
   obtain⟨qj,qw⟩:=q
   simp only at hy ⊢
   rw[hy]
   cases ht:a.tmps[t]? with
   | none=>rfl
   | some v=>
    cases v<;>first | rfl | (exfalso;exact h5 _ ht)
  ·cases hw
theorem ZmU {Γ:Gh} {w:World} {I:Nat→Prop}:Rep Γ w I (.tup []) undef:=⟨#[],rfl,trivial⟩
theorem ZkN {ops:List Oper} {o:Oper} {co:CO} (h:ZnD P nt ops o=some co):Zpk ops o.guard=some co.guard∧Zaf (cOp P o.type o.op)=co.op∧XI nt o.dst=true∧co.dst=o.dst:=by
 unfold ZnD at h
 obtain⟨g,h1,h⟩:=Za h
 split at h
 ·cases h;exact⟨h1,rfl,by assumption,rfl⟩
 ·cases h
theorem Xv {base:Nat} {dst:Option Nat} {sl:Sl} {hp:Hp} {e:Option Zc} {r:Sl×Hp} (h:VO base dst sl hp e=some r):∃ ce,e=some ce∧Xl base (base+64) ce.eff.adds=true∧r=ce.on dst sl hp:=by
 unfold VO at h
 obtain⟨ce,h1,h⟩:=Za h
 split at h
 ·cases h;exact⟨ce,h1,by assumption,rfl⟩
 ·cases h
theorem ZA4 {ops:Array Oper} {i:Nat} {o:Oper} {rest:List Oper} (h:ops.toList.drop i=o :: rest):ops[i]?=some o∧ops.toList.drop (i+1)=rest∧i<ops.size:=by
 have h1:(ops.toList.drop i)[0]?=some o:=by rw[h];rfl
 rw[List.getElem?_drop] at h1
 have h2:ops[i]?=some o:=by simpa using h1
 refine⟨h2,?_,(Array.getElem?_eq_some_iff.1 h2).1⟩
 rw[← List.drop_drop,h];rfl
theorem Zw2 {C:Orc} {M:Zt} (hC:QD P C) (hB:Wo C) {ops:Array Oper} {Q:Exit→Act→World→Prop} {nx m:Nat} :
  ∀ (os:List CO) (i:Nat) {sl:Sl} {hp:Hp} {r:Sl×Hp} {I:Nat→Prop} {Γ:Gh} {a:Act} {w:World},i≤ops.size→Q6 (ZnD P nt ops.toList) (ops.toList.drop i)=some (ZmQ os)→ZgJ C M nx i os sl hp=some r →
   Sim nt F A I Γ (Zbz (nx+64*i)) sl hp a w→ZhC Γ0 Γ hp→(∀ a' w',ZbA nt F A Γ0 I w { sl:=r.1,hp:=r.2,nx:=nx+64*ops.size,m:=m } a' w'→Q .normal a' w') →
   wpOps P ops Q (List.range' i (ops.size-i)) a w:=by
 intro os
 induction os with
 | nil=>
  intro i sl hp r I Γ a w hile hos hv hS hc hQ
  have hd:ops.toList.drop i=[]:=by
   cases hd:ops.toList.drop i with
   | nil=>rfl
   | cons o rest=>
    rw[hd] at hos
    simp only[Q6] at hos
    obtain⟨_,_,hos⟩:=Za hos
    obtain⟨_,_,hos⟩:=Za hos
    simp[ZmQ] at hos
  have hi:ops.size≤i:=by
   have:=List.drop_eq_nil_iff.1 hd
   simpa using this
  have hie:i=ops.size:=by omega
  subst hie
  rw[show ops.size-ops.size=0 by omega]
  simp only[ZgJ] at hv
  cases hv
  simp only[List.range',wpOps]
  exact hQ a w (ZbA.refl (st := { sl:=sl,hp:=hp,nx:=nx+64*ops.size,m:=m }) hS hc)
 | cons co os ih=>
  intro i sl hp r I Γ a w hile hos hv hS hc hQ
  cases hd:ops.toList.drop i with
  | nil=>rw[hd] at hos;simp[Q6,ZmQ] at hos
  | cons o rest=>
   obtain⟨ho,hrest,hlt⟩:=ZA4 hd
   rw[hd] at hos
   simp only[Q6] at hos
   obtain⟨co',h1,hos⟩:=Za hos
   obtain⟨os',h2,hos⟩:=Za hos
   simp only[ZmQ,Option.some.injEq,List.cons.injEq] at hos
   obtain⟨rfl,rfl⟩:=hos
   obtain⟨hg,hop,hdst,hdd⟩:=ZkN h1
   dsimp only at hg hop hdd
   rw[show ops.size-i=(ops.size-(i+1))+1 by omega,List.range'_succ]
   simp only[ZgJ] at hv
   obtain⟨b,hw,hv⟩:=Za hv
   have hwant:=Zu3 hS hg hw
   simp only[wpOps,ho,hwant]
   rw[hdd] at hv
   cases b with
   | true=>
    simp only[if_true] at hv ⊢
    obtain⟨q,hq,hv⟩:=Za hv
    obtain⟨ce,hce,hok,rfl⟩:=Xv hq
    refine .inl (ZCG hC hS hop (ZmS _) hdst hok hce _ _ fun u w' hp'=>?_)
    obtain⟨I1,Γ1,b1,b2,b3,b4,b5⟩:=hp'
    refine ih (i+1) (by omega) (by rw[hrest];exact h2) hv (by rw[show nx+64*(i+1)=nx+64*i+64 by omega];exact b5.more ZmT) (JX.cpre b1 (n:=nx+64*i) ((ZhB hB hce).keeps hok o.dst sl) hc fun id o hl=>hS.id_in hl) fun a' w'' hpost=>hQ a' w'' (hpost.step b2 b3 b4)
   | false=>
    simp only[Bool.false_eq_true,if_false] at hv ⊢
    obtain⟨I1,Γ1,b1,b2,b3,b4,b5⟩:=hS.pure (U':=Zbz (nx+64*(i+1))) (v:=.tup []) (u:=undef) (dst:=o.dst) (ZC6 (by omega)) ZmU hdst
    exact ih (i+1) (by omega) (by rw[hrest];exact h2) hv b5 (JX.cpre b1 (XQ.refl hp (nx+64*i)) hc fun id o hl=>hS.id_in hl) fun a' w'' hpost=>hQ a' w'' (hpost.step b2 b3 b4)
theorem ZlL {hp:Hp} {ids:List Nat}:∀ {l:List Nat} {i:Nat},i∈l→i∉ZiI hp ids l→ZfF hp ids i=true
 | [],i,h,_=>by simp at h
 | x :: r,i,h,hn=>by
  simp only[ZiI] at hn
  cases hl:ZfF hp ids x with
  | true=>
   rw[hl] at hn
   simp only[if_true] at hn
   rcases List.mem_cons.1 h with rfl | h
   ·exact hl
   ·exact ZlL h hn
  | false=>
   rw[hl] at hn
   simp only[Bool.false_eq_true,if_false,List.mem_cons,not_or] at hn
   rcases List.mem_cons.1 h with rfl | h
   ·exact absurd rfl hn.1
   ·exact ZlL h hn.2
def ZcS (hp:Hp) (ids:List Nat) (Γ:Gh):Gh:=fun k=>match ids[k]? with
 | some id=>if Za5 (lkp hp id) then Γ id else some (.row none 0 0 0)
 | none=>none
theorem Zsb {hp:Hp} {ids:List Nat} {Γ:Gh} {id:Nat} (h:ZfF hp ids id=true):ZcS hp ids Γ (UA ids id)=Γ id:=by
 simp only[ZfF,Bool.and_eq_true,List.contains_eq_mem,decide_eq_true_eq] at h
 simp only[ZcS,(Zld h.1).2,h.2,if_true]
section
variable {I:Nat→Prop} {Γ:Gh} {U:Nat→Prop} {sl:Sl} {hp:Hp} {a:Act} {w:World}
theorem ZpH (ids:List Nat) {x:AV} {v:Value} (h:Rep Γ w I x v):Rep (ZcS hp ids Γ) w I (ZgK hp ids x) v:=by
 refine Zoq (fun id hid r hr=>?_) (Z3.refl I w) (Zua (bad:=ZiI hp ids (ZI x)) h)
 obtain⟨h1,h2⟩:=Zmr _ _ id hid
 rw[Zsb (ZlL h1 h2)]
 exact hr
theorem ZA5 {ids:List Nat} {k id:Nat} (hk:ids[k]?=some id) {o:Zo} (hl:lkp hp id=some o) (ho:W1 Γ w I F A id o):W1 (ZcS hp ids Γ) w I F A k (ZiJ hp ids o):=by
 have hG:ZcS hp ids Γ k=Γ id:=by simp[ZcS,hk,hl,Za5]
 cases o with
 | box cs=>
  obtain⟨b,cur,e,h1,h2,h3,h4,h5,hbf⟩:=ho
  refine⟨b,cur,e,by rw[hG,h1],h2,h3,h4,?_,(hbf.map (Zat _)).map (ZdP _)⟩
  have h6:Zz (YA Γ w I) (cs.map (Z6 (ZiI hp ids (Zcq (.box cs))))) cur.toList:=h5.map_left fun _ _ h=>Zmp h
  refine Zgn (fun id' hid r hr=>?_) (Z3.refl I w) h6
  obtain⟨y,hy,hid⟩:=List.mem_flatMap.1 hid
  obtain⟨x,hx,rfl⟩:=List.mem_map.1 hy
  obtain⟨h7,h8⟩:=Zha _ x id' hid
  rw[Zsb (ZlL (List.mem_flatMap.2 ⟨x,hx,h7⟩) h8)]
  exact hr
 | row sz xs ex fz=>
  obtain⟨ad,n,c,h1,h2⟩:=ho
  exact⟨ad,n,c,by rw[hG,h1],h2⟩
 | deep sz ns xs lk=>
  obtain⟨ad,n,c,h1,h2,_⟩:=ho
  exact⟨ad,n,c,by rw[hG,h1],h2,trivial⟩
theorem Zw3 (h:Sim nt F A I Γ U sl hp a w) {ids:List Nat} (hnd:ids.Nodup) :
  ZbH (ZcS hp ids Γ) w I F A (W5 0 ((Zd3 hp ids).map (ZiJ hp ids))) ∧
  (∀ i j o o' b,lkp (W5 0 ((Zd3 hp ids).map (ZiJ hp ids))) i=some o→lkp (W5 0 ((Zd3 hp ids).map (ZiJ hp ids))) j=some o'→Blk (ZcS hp ids Γ) w i o b→Blk (ZcS hp ids Γ) w j o' b→i=j) ∧
  (∀ id,ids.length≤id→ZcS hp ids Γ id=none):=by
 have get:∀ k o,lkp (W5 0 ((Zd3 hp ids).map (ZiJ hp ids))) k=some o→∃ id,ids[k]?=some id∧o=ZiJ hp ids (Zlu (lkp hp id)):=by
  intro k o hk
  rw[Wi] at hk
  simp only[Nat.zero_le,if_true,Nat.sub_zero,List.getElem?_map,ZdU,Option.map_map] at hk
  cases hi:ids[k]? with
  | none=>rw[hi] at hk;cases hk
  | some id=>
   rw[hi] at hk
   simp only[Option.map_some,Option.some.injEq,Function.comp_apply] at hk
   exact⟨id,rfl,hk.symm⟩
 refine⟨fun k o hk=>?_,fun i j o o' b hi hj hbi hbj=>?_,fun id hid=>?_⟩
 ·obtain⟨id,h1,rfl⟩:=get k o hk
  cases hl:lkp hp id with
  | none=>exact⟨none,0,0,by simp[ZcS,h1,hl,Za5],rfl,.inl ⟨rfl,rfl⟩⟩
  | some o0=>exact ZA5 h1 hl (h.objs id o0 hl)
 ·obtain⟨id,h1,rfl⟩:=get i o hi
  obtain⟨id',h2,rfl⟩:=get j o' hj
  have bk:∀ (k id:Nat) (o0:Zo),ZcS hp ids Γ k=Γ id→Blk (ZcS hp ids Γ) w k (ZiJ hp ids o0) b→Blk Γ w id o0 b:=by
   intro k id o0 e hb
   rcases hb with hb | hb | hb
   ·exact .inl (e ▸ hb)
   ·cases o0 with
    | box cs=>exact False.elim hb
    | row sz xs ex fz=>exact False.elim hb
    | deep sz ns xs lk=>obtain⟨g,p,h5,h6⟩:=hb;exact .inr (.inl ⟨g,p,e ▸ h5,h6⟩)
   ·cases o0 with
    | box cs=>exact .inr (.inr ((Buf.unmap (Zat _) (Buf.unmap (ZdP _) hb)).ren e.symm))
    | row sz xs ex fz=>exact False.elim hb
    | deep sz ns xs lk=>exact False.elim hb
  cases hl:lkp hp id with
  | none=>exact(hbi.nil (by simp[ZcS,h1,hl,Za5,ZG])).elim
  | some o0=>
   cases hl' : lkp hp id' with
   | none=>exact(hbj.nil (by simp[ZcS,h2,hl',Za5,ZG])).elim
   | some o1=>
    have e1:ZcS hp ids Γ i=Γ id:=by simp[ZcS,h1,hl,Za5]
    have e2:ZcS hp ids Γ j=Γ id':=by simp[ZcS,h2,hl',Za5]
    rw[hl] at hbi;rw[hl'] at hbj
    have:=h.inj id id' o0 o1 b hl hl' (bk i id o0 e1 hbi) (bk j id' o1 e2 hbj)
    subst this
    exact ZrF hnd h1 h2
 ·simp[ZcS,List.getElem?_eq_none hid]
theorem Za7 (hp:Hp):∀ (n:Nat) (todo acc:List Nat),∃ t,Xd hp n todo acc=acc++t
 | 0,todo,acc=>⟨[],by simp[Xd]⟩
 | n+1,[],acc=>⟨[],by simp[Xd]⟩
 | n+1,id :: todo,acc=>by
  simp only[Xd]
  split
  ·exact Za7 hp n todo acc
  ·cases lkp hp id with
   | none=>simp only[ZaY];exact Za7 hp n todo acc
   | some o=>
    simp only[ZaY]
    obtain⟨t,ht⟩:=Za7 hp n (todo++Zcq o) (acc++[id])
    exact⟨id :: t,by rw[ht];simp⟩
theorem ZiN {hp:Hp} {n m:Nat} {todo:List Nat} {k:Nat} (hk:k<m):(Xd hp n todo (List.range m))[k]?=some k:=by
 obtain⟨t,ht⟩:=Za7 hp n todo (List.range m)
 rw[ht,List.getElem?_append_left (by simpa using hk)]
 simp[hk]
theorem Zsc {n m:Nat} {todo:List Nat} (hc:ZhC Γ0 Γ hp) (hm:∀ k,m≤k→Γ0 k=none) :
  ZhC Γ0 (ZcS hp (Xd hp n todo (List.range m)) Γ) (W5 0 ((Zd3 hp (Xd hp n todo (List.range m))).map (ZiJ hp (Xd hp n todo (List.range m))))):=by
 intro k b hk
 have hkm:k<m:=by
  rcases Nat.lt_or_ge k m with h | h
  ·exact h
  ·rw[hm k h] at hk;cases hk
 obtain⟨h1,cs,h2⟩:=hc k b hk
 have h3:=ZiN (hp:=hp) (n:=n) (todo:=todo) hkm
 refine⟨by simp[ZcS,h3,h2,Za5,h1],?_⟩
 rw[Wi]
 simp only[Nat.zero_le,if_true,Nat.sub_zero,List.getElem?_map,ZdU,h3,Option.map_some,h2,Zlu]
 exact⟨_,rfl⟩
theorem ZlM {α:Type} (K:List Nat):∀ (l:List (Nat×α)) (t:Nat),lkp (only K l) t=if K.contains t then lkp l t else none
 | [],t=>by simp[only,lkp]
 | (k,v) :: r,t=>by
  simp only[only]
  by_cases hk:K.contains k=true
  ·rw[if_pos hk]
   simp only[lkp,ZlM K r]
   by_cases hkt:k=t
   ·subst hkt;simp only[if_true,hk]
   ·simp only[if_neg hkt]
  ·rw[if_neg hk,ZlM K r]
   simp only[lkp]
   by_cases hkt:k=t
   ·subst hkt;simp only[if_true];rw[if_neg hk,if_neg hk]
   ·simp only[if_neg hkt]
end
theorem Zzt {I:Nat→Prop} {Γ:Gh} {st:St} {a:Act} {w:World} (h:Sim nt F A I Γ (Zbz st.nx) st.sl st.hp a w) (hc:ZhC Γ0 Γ st.hp) (hm:∀ k,st.m≤k→Γ0 k=none) (K:List Nat) :
  ∃ Γ',Sim nt F A I Γ' (Zbz (JG K st).nx) (JG K st).sl (JG K st).hp a w∧ZhC Γ0 Γ' (JG K st).hp:=by
 have hnd:=(Zcr st.hp (XO st.hp) (ZpD (only K st.sl)++UD st.hp (List.range st.m)) (List.range st.m) List.nodup_range).1
 obtain⟨h1,h2,h3⟩:=Zw3 h hnd
 refine⟨ZcS st.hp (Xd st.hp (XO st.hp) (ZpD (only K st.sl)++UD st.hp (List.range st.m)) (List.range st.m)) Γ,
  { nt:=h.nt,dfr:=h.dfr,slots:=fun t=>?_,objs:=h1,inj:=h2,bound:=h.bound,fresh:=h.fresh,own:=h.own,names:=fun id hid=>h3 id (Nat.le_of_not_lt hid),glob:=h.glob },Zsc hc hm⟩
 show Rep _ w I (gs (ZjZ _ (only K st.sl)) t) _
 simp only[gs,Zei,ZlM]
 have hs:=h.slots t
 simp only[gs] at hs
 by_cases hK:K.contains t=true
 ·rw[if_pos hK]
  cases hl:lkp st.sl t with
  | none=>exact trivial
  | some v=>rw[hl] at hs;exact ZpH _ hs
 ·rw[if_neg hK];exact trivial
end
end Go.Abs
