/- The abstract semantics and the model: codes. Own text. -/
import Derived.Test.YtemkonmgcoceaaaDoorAbsSound
set_option linter.unusedVariables false
set_option linter.unusedSimpArgs false
namespace Go.Abs
open Go
section
variable {P:Program} {nt:Nat} {F A:Nat→Prop} {Γ0:Gh}
def V6 (n:Nat):Nat→Prop:=fun id=>id<n
theorem ZeE (n:Nat):QO (V6 n) n:=fun id h _ hu=>by simp only[V6] at hu;omega
theorem ZeF {n:Nat}:∀ id,V0 (V6 n) n id→V6 (n+64) id:=fun id h=>by
 simp only[V0,V6] at h ⊢;omega
theorem ZqG {n m:Nat} (h:n≤m):∀ id,V6 n id→V6 m id:=fun id hu=>by simp only[V6] at hu ⊢;omega
def ZaR (Γ0 Γ:Gh) (hp:Hp):Prop:=∀ k b,Γ0 k=some (.box b)→Γ k=some (.box b)∧∃ cs,lkp hp k=some (.box cs)
def V8 (nt:Nat) (F A:Nat→Prop) (Γ0:Gh) (I:Nat→Prop) (w:World) (st' : St) (a' : Act) (w' : World):Prop:=
 ∃ I' Γ',ZaR Γ0 Γ' st'.hp∧ZF I I' w w'∧(∀ b,I' b→I b∨F b)∧Fr F w w'∧Sim nt F A I' Γ' (V6 st'.nx) st'.sl st'.hp a' w'
theorem V8.refl {I:Nat→Prop} {Γ:Gh} {st:St} {a:Act} {w:World} (h:Sim nt F A I Γ (V6 st.nx) st.sl st.hp a w) (hc:ZaR Γ0 Γ st.hp):V8 nt F A Γ0 I w st a w:=
 ⟨I,Γ,hc,ZF.refl I w,fun _ h=>.inl h,Fr.refl F w,h⟩
theorem V8.step {I I1:Nat→Prop} {w w1 w' : World} {st' : St} {a' : Act} (hk:ZF I I1 w w1) (hs:∀ b,I1 b→I b∨F b) (hf:Fr F w w1) (h:V8 nt F A Γ0 I1 w1 st' a' w'):V8 nt F A Γ0 I w st' a' w':=by
 obtain⟨I',Γ',h1,h2,h3,h4,h5⟩:=h
 refine⟨I',Γ',h1,hk.trans h2,fun b hb=>?_,hf.trans h4,h5⟩
 rcases h3 b hb with h6 | h6
 ·exact hs b h6
 ·exact .inr h6
theorem Vc.cpre {Γ Γ' : Gh} {hp hp' : Hp} (hg:∀ id b,Γ id=some (.box b)→Γ' id=some (.box b)) {n:Nat} (hb:QL hp hp' n) (hc:ZaR Γ0 Γ hp) (hlt:∀ id o,lkp hp id=some o→id<n):ZaR Γ0 Γ' hp':=by
 intro k b hk
 obtain⟨h1,cs,h2⟩:=hc k b hk
 exact⟨hg k b h1,hb k cs (hlt k _ h2) h2⟩
theorem Zlh {I:Nat→Prop} {Γ:Gh} {U:Nat→Prop} {sl:Sl} {hp:Hp} {a:Act} {w:World} (h:Sim nt F A I Γ U sl hp a w) {ops:Array Oper} {o:Oper} {g:Option (Nat×Bool)} (hg:ZgV ops.toList o.guard=some g)
  {b:Bool} (hw:ZM sl g=some b):Region.wanted o (yielded ops a.tmps)=b:=by
 unfold Region.wanted
 cases ho:o.guard with
 | none=>
  rw[ho] at hg
  simp only[ZgV] at hg
  cases hg
  simp only[ZM] at hw
  cases hw
  rfl
 | some q=>
  rw[ho] at hg
  simp only[ZgV] at hg
  obtain⟨g',h1,hg⟩:=Za hg
  obtain⟨t,h2,hg⟩:=Za hg
  cases hg
  simp only[ZM] at hw
  have hr:=h.slots t
  have h1' : ops[q.1]?=some g':=by simpa using h1
  have hy:yielded ops a.tmps q.1=match a.tmps[t]? with
   | some (.bool b)=>some b
   | _=>none:=by unfold yielded;rw[h1'];simp only[Option.bind_some,h2];rfl
  unfold ZaJ at hw
  split at hw
  ·rename_i b' hb'
   cases hw
   rw[hb'] at hr
   have h3:=J0 hr
   have h4:a.tmps[t]?=some (.bool b'):=by
    cases ht:a.tmps[t]? with
    | none=>simp[ht,undef] at h3
    | some v=>simp[ht] at h3;rw[h3]
   obtain⟨qj,qw⟩:=q
   simp only at hy ⊢
   rw[hy,h4]
   cases b' <;> cases qw<;>rfl
  ·rename_i hb'
   cases hw
   rw[hb'] at hr
   obtain⟨us,h3,h4⟩:=hr
   have h5:∀ b',a.tmps[t]?≠some (.bool b'):=by
    intro b' hb''
    simp[hb''] at h3
   obtain⟨qj,qw⟩:=q
   simp only at hy ⊢
   rw[hy]
   cases ht:a.tmps[t]? with
   | none=>rfl
   | some v=>
    cases v<;>first | rfl | (exfalso;exact h5 _ ht)
  ·cases hw
theorem ZeG {Γ:Gh} {w:World} {I:Nat→Prop}:Rep Γ w I (.tup []) undef:=⟨#[],rfl,trivial⟩
theorem Zc2 {ops:List Oper} {o:Oper} {co:CO} (h:Zfk P nt ops o=some co):ZgV ops o.guard=some co.guard∧Vg (cOp P o.type o.op)=co.op∧QG nt o.dst=true∧co.dst=o.dst:=by
 unfold Zfk at h
 obtain⟨g,h1,h⟩:=Za h
 split at h
 ·cases h;exact⟨h1,rfl,by assumption,rfl⟩
 ·cases h
theorem QB {base:Nat} {dst:Option Nat} {sl:Sl} {hp:Hp} {e:Option Zb} {r:Sl×Hp} (h:XE base dst sl hp e=some r):∃ ce,e=some ce∧Qs base (base+64) ce.eff.adds=true∧r=ce.on dst sl hp:=by
 unfold XE at h
 obtain⟨ce,h1,h⟩:=Za h
 split at h
 ·cases h;exact⟨ce,h1,by assumption,rfl⟩
 ·cases h
theorem ZpD {ops:Array Oper} {i:Nat} {o:Oper} {rest:List Oper} (h:ops.toList.drop i=o :: rest):ops[i]?=some o∧ops.toList.drop (i+1)=rest∧i<ops.size:=by
 have h1:(ops.toList.drop i)[0]?=some o:=by rw[h];rfl
 rw[List.getElem?_drop] at h1
 have h2:ops[i]?=some o:=by simpa using h1
 refine⟨h2,?_,(Array.getElem?_eq_some_iff.1 h2).1⟩
 rw[← List.drop_drop,h];rfl
theorem ZmI {C:Orc} {M:Zj} (hC:Z6 P C) (hB:Yb C) {ops:Array Oper} {Q:Exit→Act→World→Prop} {nx m:Nat} :
  ∀ (os:List CO) (i:Nat) {sl:Sl} {hp:Hp} {r:Sl×Hp} {I:Nat→Prop} {Γ:Gh} {a:Act} {w:World},i≤ops.size→Qh (Zfk P nt ops.toList) (ops.toList.drop i)=some (ZeC os)→Zad C M nx i os sl hp=some r →
   Sim nt F A I Γ (V6 (nx+64*i)) sl hp a w→ZaR Γ0 Γ hp→(∀ a' w',V8 nt F A Γ0 I w { sl:=r.1,hp:=r.2,nx:=nx+64*ops.size,m:=m } a' w'→Q .normal a' w') →
   wpOps P ops Q (List.range' i (ops.size-i)) a w:=by
 intro os
 induction os with
 | nil=>
  intro i sl hp r I Γ a w hile hos hv hS hc hQ
  have hd:ops.toList.drop i=[]:=by
   cases hd:ops.toList.drop i with
   | nil=>rfl
   | cons o rest=>
    rw[hd] at hos
    simp only[Qh] at hos
    obtain⟨_,_,hos⟩:=Za hos
    obtain⟨_,_,hos⟩:=Za hos
    simp[ZeC] at hos
  have hi:ops.size≤i:=by
   have:=List.drop_eq_nil_iff.1 hd
   simpa using this
  have hie:i=ops.size:=by omega
  subst hie
  rw[show ops.size-ops.size=0 by omega]
  simp only[Zad] at hv
  cases hv
  simp only[List.range',wpOps]
  exact hQ a w (V8.refl (st := { sl:=sl,hp:=hp,nx:=nx+64*ops.size,m:=m }) hS hc)
 | cons co os ih=>
  intro i sl hp r I Γ a w hile hos hv hS hc hQ
  cases hd:ops.toList.drop i with
  | nil=>rw[hd] at hos;simp[Qh,ZeC] at hos
  | cons o rest=>
   obtain⟨ho,hrest,hlt⟩:=ZpD hd
   rw[hd] at hos
   simp only[Qh] at hos
   obtain⟨co',h1,hos⟩:=Za hos
   obtain⟨os',h2,hos⟩:=Za hos
   simp only[ZeC,Option.some.injEq,List.cons.injEq] at hos
   obtain⟨rfl,rfl⟩:=hos
   obtain⟨hg,hop,hdst,hdd⟩:=Zc2 h1
   dsimp only at hg hop hdd
   rw[show ops.size-i=(ops.size-(i+1))+1 by omega,List.range'_succ]
   simp only[Zad] at hv
   obtain⟨b,hw,hv⟩:=Za hv
   have hwant:=Zlh hS hg hw
   simp only[wpOps,ho,hwant]
   rw[hdd] at hv
   cases b with
   | true=>
    simp only[if_true] at hv ⊢
    obtain⟨q,hq,hv⟩:=Za hv
    obtain⟨ce,hce,hok,rfl⟩:=QB hq
    refine .inl (Zqe hC hS hop (ZeE _) hdst hok hce _ _ fun u w' hp'=>?_)
    obtain⟨I1,Γ1,b1,b2,b3,b4,b5⟩:=hp'
    refine ih (i+1) (by omega) (by rw[hrest];exact h2) hv (by rw[show nx+64*(i+1)=nx+64*i+64 by omega];exact b5.more ZeF) (Vc.cpre b1 (n:=nx+64*i) ((ZaQ hB hce).keeps hok o.dst sl) hc fun id o hl=>hS.id_in hl) fun a' w'' hpost=>hQ a' w'' (hpost.step b2 b3 b4)
   | false=>
    simp only[Bool.false_eq_true,if_false] at hv ⊢
    obtain⟨I1,Γ1,b1,b2,b3,b4,b5⟩:=hS.pure (U':=V6 (nx+64*(i+1))) (v:=.tup []) (u:=undef) (dst:=o.dst) (ZqG (by omega)) ZeG hdst
    exact ih (i+1) (by omega) (by rw[hrest];exact h2) hv b5 (Vc.cpre b1 (QL.refl hp (nx+64*i)) hc fun id o hl=>hS.id_in hl) fun a' w'' hpost=>hQ a' w'' (hpost.step b2 b3 b4)
theorem ZdW {hp:Hp} {ids:List Nat}:∀ {l:List Nat} {i:Nat},i∈l→i∉Zby hp ids l→JA hp ids i=true
 | [],i,h,_=>by simp at h
 | x :: r,i,h,hn=>by
  simp only[Zby] at hn
  cases hl:JA hp ids x with
  | true=>
   rw[hl] at hn
   simp only[if_true] at hn
   rcases List.mem_cons.1 h with rfl | h
   ·exact hl
   ·exact ZdW h hn
  | false=>
   rw[hl] at hn
   simp only[Bool.false_eq_true,if_false,List.mem_cons,not_or] at hn
   rcases List.mem_cons.1 h with rfl | h
   ·exact absurd rfl hn.1
   ·exact ZdW h hn.2
def WW (hp:Hp) (ids:List Nat) (Γ:Gh):Gh:=fun k=>match ids[k]? with
 | some id=>if V2 (lkp hp id) then Γ id else some (.row none 0 0 0)
 | none=>none
theorem ZiJ {hp:Hp} {ids:List Nat} {Γ:Gh} {id:Nat} (h:JA hp ids id=true):WW hp ids Γ (Ys ids id)=Γ id:=by
 simp only[JA,Bool.and_eq_true,List.contains_eq_mem,decide_eq_true_eq] at h
 simp only[WW,(Zdp h.1).2,h.2,if_true]
section
variable {I:Nat→Prop} {Γ:Gh} {U:Nat→Prop} {sl:Sl} {hp:Hp} {a:Act} {w:World}
theorem Zhe (ids:List Nat) {x:AV} {v:Value} (h:Rep Γ w I x v):Rep (WW hp ids Γ) w I (Zae hp ids x) v:=by
 refine ZfH (fun id hid r hr=>?_) (ZF.refl I w) (Zkk (bad:=Zby hp ids (Zs x)) h)
 obtain⟨h1,h2⟩:=Zei _ _ id hid
 rw[ZiJ (ZdW h1 h2)]
 exact hr
theorem ZpE {ids:List Nat} {k id:Nat} (hk:ids[k]?=some id) {o:Zi} (hl:lkp hp id=some o) (ho:Yg Γ w I F A id o):Yg (WW hp ids Γ) w I F A k (Zbz hp ids o):=by
 have hG:WW hp ids Γ k=Γ id:=by simp[WW,hk,hl,V2]
 cases o with
 | box cs=>
  obtain⟨b,cur,e,h1,h2,h3,h4,h5,hbf⟩:=ho
  refine⟨b,cur,e,by rw[hG,h1],h2,h3,h4,?_,(hbf.map (Vr _)).map (Uq _)⟩
  have h6:Zm (Q0 Γ w I) (cs.map (ZG (Zby hp ids (WJ (.box cs))))) cur.toList:=h5.map_left fun _ _ h=>Zeg h
  refine JT (fun id' hid r hr=>?_) (ZF.refl I w) h6
  obtain⟨y,hy,hid⟩:=List.mem_flatMap.1 hid
  obtain⟨x,hx,rfl⟩:=List.mem_map.1 hy
  obtain⟨h7,h8⟩:=Zar _ x id' hid
  rw[ZiJ (ZdW (List.mem_flatMap.2 ⟨x,hx,h7⟩) h8)]
  exact hr
 | row sz xs ex fz=>
  obtain⟨ad,n,c,h1,h2⟩:=ho
  exact⟨ad,n,c,by rw[hG,h1],h2⟩
 | deep sz ns xs lk=>
  obtain⟨ad,n,c,h1,h2,_⟩:=ho
  exact⟨ad,n,c,by rw[hG,h1],h2,trivial⟩
theorem ZmJ (h:Sim nt F A I Γ U sl hp a w) {ids:List Nat} (hnd:ids.Nodup) :
  Wl (WW hp ids Γ) w I F A (Yj 0 ((UO hp ids).map (Zbz hp ids))) ∧
  (∀ i j o o' b,lkp (Yj 0 ((UO hp ids).map (Zbz hp ids))) i=some o→lkp (Yj 0 ((UO hp ids).map (Zbz hp ids))) j=some o'→Blk (WW hp ids Γ) w i o b→Blk (WW hp ids Γ) w j o' b→i=j) ∧
  (∀ id,ids.length≤id→WW hp ids Γ id=none):=by
 have get:∀ k o,lkp (Yj 0 ((UO hp ids).map (Zbz hp ids))) k=some o→∃ id,ids[k]?=some id∧o=Zbz hp ids (ZdG (lkp hp id)):=by
  intro k o hk
  rw[XS] at hk
  simp only[Nat.zero_le,if_true,Nat.sub_zero,List.getElem?_map,UF,Option.map_map] at hk
  cases hi:ids[k]? with
  | none=>rw[hi] at hk;cases hk
  | some id=>
   rw[hi] at hk
   simp only[Option.map_some,Option.some.injEq,Function.comp_apply] at hk
   exact⟨id,rfl,hk.symm⟩
 refine⟨fun k o hk=>?_,fun i j o o' b hi hj hbi hbj=>?_,fun id hid=>?_⟩
 ·obtain⟨id,h1,rfl⟩:=get k o hk
  cases hl:lkp hp id with
  | none=>exact⟨none,0,0,by simp[WW,h1,hl,V2],rfl,.inl ⟨rfl,rfl⟩⟩
  | some o0=>exact ZpE h1 hl (h.objs id o0 hl)
 ·obtain⟨id,h1,rfl⟩:=get i o hi
  obtain⟨id',h2,rfl⟩:=get j o' hj
  have bk:∀ (k id:Nat) (o0:Zi),WW hp ids Γ k=Γ id→Blk (WW hp ids Γ) w k (Zbz hp ids o0) b→Blk Γ w id o0 b:=by
   intro k id o0 e hb
   rcases hb with hb | hb | hb
   ·exact .inl (e ▸ hb)
   ·cases o0 with
    | box cs=>exact False.elim hb
    | row sz xs ex fz=>exact False.elim hb
    | deep sz ns xs lk=>obtain⟨g,p,h5,h6⟩:=hb;exact .inr (.inl ⟨g,p,e ▸ h5,h6⟩)
   ·cases o0 with
    | box cs=>exact .inr (.inr ((Buf.unmap (Vr _) (Buf.unmap (Uq _) hb)).ren e.symm))
    | row sz xs ex fz=>exact False.elim hb
    | deep sz ns xs lk=>exact False.elim hb
  cases hl:lkp hp id with
  | none=>exact(hbi.nil (by simp[WW,h1,hl,V2,Zq])).elim
  | some o0=>
   cases hl' : lkp hp id' with
   | none=>exact(hbj.nil (by simp[WW,h2,hl',V2,Zq])).elim
   | some o1=>
    have e1:WW hp ids Γ i=Γ id:=by simp[WW,h1,hl,V2]
    have e2:WW hp ids Γ j=Γ id':=by simp[WW,h2,hl',V2]
    rw[hl] at hbi;rw[hl'] at hbj
    have:=h.inj id id' o0 o1 b hl hl' (bk i id o0 e1 hbi) (bk j id' o1 e2 hbj)
    subst this
    exact Zid hnd h1 h2
 ·simp[WW,List.getElem?_eq_none hid]
theorem V4 (hp:Hp):∀ (n:Nat) (todo acc:List Nat),∃ t,Qj hp n todo acc=acc++t
 | 0,todo,acc=>⟨[],by simp[Qj]⟩
 | n+1,[],acc=>⟨[],by simp[Qj]⟩
 | n+1,id :: todo,acc=>by
  simp only[Qj]
  split
  ·exact V4 hp n todo acc
  ·cases lkp hp id with
   | none=>simp only[VU];exact V4 hp n todo acc
   | some o=>
    simp only[VU]
    obtain⟨t,ht⟩:=V4 hp n (todo++WJ o) (acc++[id])
    exact⟨id :: t,by rw[ht];simp⟩
theorem ZbD {hp:Hp} {n m:Nat} {todo:List Nat} {k:Nat} (hk:k<m):(Qj hp n todo (List.range m))[k]?=some k:=by
 obtain⟨t,ht⟩:=V4 hp n todo (List.range m)
 rw[ht,List.getElem?_append_left (by simpa using hk)]
 simp[hk]
theorem ZiK {n m:Nat} {todo:List Nat} (hc:ZaR Γ0 Γ hp) (hm:∀ k,m≤k→Γ0 k=none) :
  ZaR Γ0 (WW hp (Qj hp n todo (List.range m)) Γ) (Yj 0 ((UO hp (Qj hp n todo (List.range m))).map (Zbz hp (Qj hp n todo (List.range m))))):=by
 intro k b hk
 have hkm:k<m:=by
  rcases Nat.lt_or_ge k m with h | h
  ·exact h
  ·rw[hm k h] at hk;cases hk
 obtain⟨h1,cs,h2⟩:=hc k b hk
 have h3:=ZbD (hp:=hp) (n:=n) (todo:=todo) hkm
 refine⟨by simp[WW,h3,h2,V2,h1],?_⟩
 rw[XS]
 simp only[Nat.zero_le,if_true,Nat.sub_zero,List.getElem?_map,UF,h3,Option.map_some,h2,ZdG]
 exact⟨_,rfl⟩
theorem ZdX {α:Type} (K:List Nat):∀ (l:List (Nat×α)) (t:Nat),lkp (only K l) t=if K.contains t then lkp l t else none
 | [],t=>by simp[only,lkp]
 | (k,v) :: r,t=>by
  simp only[only]
  by_cases hk:K.contains k=true
  ·rw[if_pos hk]
   simp only[lkp,ZdX K r]
   by_cases hkt:k=t
   ·subst hkt;simp only[if_true,hk]
   ·simp only[if_neg hkt]
  ·rw[if_neg hk,ZdX K r]
   simp only[lkp]
   by_cases hkt:k=t
   ·subst hkt;simp only[if_true];rw[if_neg hk,if_neg hk]
   ·simp only[if_neg hkt]
end
theorem Zor {I:Nat→Prop} {Γ:Gh} {st:St} {a:Act} {w:World} (h:Sim nt F A I Γ (V6 st.nx) st.sl st.hp a w) (hc:ZaR Γ0 Γ st.hp) (hm:∀ k,st.m≤k→Γ0 k=none) (K:List Nat) :
  ∃ Γ',Sim nt F A I Γ' (V6 (Y0 K st).nx) (Y0 K st).sl (Y0 K st).hp a w∧ZaR Γ0 Γ' (Y0 K st).hp:=by
 have hnd:=(WK st.hp (QI st.hp) (Zha (only K st.sl)++Yv st.hp (List.range st.m)) (List.range st.m) List.nodup_range).1
 obtain⟨h1,h2,h3⟩:=ZmJ h hnd
 refine⟨WW st.hp (Qj st.hp (QI st.hp) (Zha (only K st.sl)++Yv st.hp (List.range st.m)) (List.range st.m)) Γ,
  { nt:=h.nt,dfr:=h.dfr,slots:=fun t=>?_,objs:=h1,inj:=h2,bound:=h.bound,fresh:=h.fresh,own:=h.own,names:=fun id hid=>h3 id (Nat.le_of_not_lt hid),glob:=h.glob },ZiK hc hm⟩
 show Rep _ w I (gs (Zca _ (only K st.sl)) t) _
 simp only[gs,U2,ZdX]
 have hs:=h.slots t
 simp only[gs] at hs
 by_cases hK:K.contains t=true
 ·rw[if_pos hK]
  cases hl:lkp st.sl t with
  | none=>exact trivial
  | some v=>rw[hl] at hs;exact Zhe _ hs
 ·rw[if_neg hK];exact trivial
end
end Go.Abs
