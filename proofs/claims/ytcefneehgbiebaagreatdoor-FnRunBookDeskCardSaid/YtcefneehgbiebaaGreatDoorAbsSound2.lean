/- Own text. -/
import Derived.Test.YtcefneehgbiebaaGreatDoorAbsSound
set_option linter.unusedVariables false
set_option linter.unusedSimpArgs false
namespace Go.Abs
open Go
section
variable {P:Program} {nt:Nat} {F A:Nat→Prop} {Γ0:Gh}
def ZaX (n:Nat):Nat→Prop:=fun id=>id<n
theorem Zlz (n:Nat):Xp (ZaX n) n:=fun id h _ hu=>by simp only[ZaX] at hu;omega
theorem ZlA {n:Nat}:∀ id,Zad (ZaX n) n id→ZaX (n+64) id:=fun id h=>by
 simp only[Zad,ZaX] at h ⊢;omega
theorem ZCA {n m:Nat} (h:n≤m):∀ id,ZaX n id→ZaX m id:=fun id hu=>by simp only[ZaX] at hu ⊢;omega
def Zf0 (Γ0 Γ:Gh) (hp:Hp):Prop:=∀ k b,Γ0 k=some (.box b)→Γ k=some (.box b)∧∃ cs,lkp hp k=some (.box cs)
def Za1 (nt:Nat) (F A:Nat→Prop) (Γ0:Gh) (I:Nat→Prop) (w:World) (st' : St) (a' : Act) (w' : World):Prop:=
 ∃ I' Γ',Zf0 Γ0 Γ' st'.hp∧ZR I I' w w'∧(∀ b,I' b→I b∨F b)∧Fr F w w'∧Sim nt F A I' Γ' (ZaX st'.nx) st'.sl st'.hp a' w'
theorem Za1.refl {I:Nat→Prop} {Γ:Gh} {st:St} {a:Act} {w:World} (h:Sim nt F A I Γ (ZaX st.nx) st.sl st.hp a w) (hc:Zf0 Γ0 Γ st.hp):Za1 nt F A Γ0 I w st a w:=
 ⟨I,Γ,hc,ZR.refl I w,fun _ h=>.inl h,Fr.refl F w,h⟩
theorem Za1.step {I I1:Nat→Prop} {w w1 w' : World} {aa : St} {a' : Act} (hk:ZR I I1 w w1) (hs:∀ b,I1 b→I b∨F b) (hf:Fr F w w1) (h:Za1 nt F A Γ0 I1 w1 aa a' w'):Za1 nt F A Γ0 I w aa a' w':=by
 obtain⟨I',Γ',h1,h2,h3,h4,h5⟩:=h;refine⟨I',Γ',h1,hk.trans h2,fun b hb=>?_,hf.trans h4,h5⟩;rcases h3 b hb with h6 | h6
 ·exact hs b h6
 ·exact .inr h6
theorem UZ.cpre {Γ Γ' : Gh} {hp hp' : Hp} (hg:∀ id b,Γ id=some (.box b)→Γ' id=some (.box b)) {n:Nat} (hb:Xf hp hp' n) (hc:Zf0 Γ0 Γ hp) (aa:∀ id o,lkp hp id=some o→id<n):Zf0 Γ0 Γ' hp':=by
 intro k b hk;obtain⟨h1,cs,h2⟩:=hc k b hk;exact⟨hg k b h1,hb k cs (aa k _ h2) h2⟩
theorem Zv2 {I:Nat→Prop} {Γ:Gh} {U:Nat→Prop} {sl:Sl} {hp:Hp} {a:Act} {w:World} (h:Sim nt F A I Γ U sl hp a w) {ops:Array Oper} {o:Oper} {g:Option (Nat×Bool)} (hg:Zo3 ops.toList o.guard=some g)
  {b:Bool} (hw:Z6 sl g=some b):Region.wanted o (yielded ops a.tmps)=b:=by
 unfold Region.wanted;cases ho:o.guard with
 | none=>
  rw[ho] at hg;simp only[Zo3] at hg;cases hg;simp only[Z6] at hw;cases hw;rfl
 | some q=>
  rw[ho] at hg;simp only[Zo3] at hg;obtain⟨g',h1,hg⟩:=Za hg;obtain⟨t,h2,hg⟩:=Za hg;cases hg;simp only[Z6] at hw;have hr:=h.slots t;have ad : ops[q.1]?=some g':=by simpa using h1
  have hy:yielded ops a.tmps q.1=match a.tmps[t]? with
   | some (.bool b)=>some b
   | _=>none:=by unfold yielded;rw[ad];simp only[KM,h2];rfl
  unfold ZfS at hw;split at hw
  ·rename_i b' aa;cases hw;rw[aa] at hr;have h3:=ZeZ hr;have h4:a.tmps[t]?=some (.bool b'):=by
    cases ht:a.tmps[t]? with
    | none=>simp[ht,undef] at h3
    | some v=>simp[ht] at h3;rw[h3]
   obtain⟨qj,qw⟩:=q;simp only at hy ⊢;rw[hy,h4];cases b' <;> cases qw<;>rfl
  ·rename_i aa;cases hw;rw[aa] at hr;obtain⟨us,h3,h4⟩:=hr;have h5:∀ b',a.tmps[t]?≠some (.bool b'):=by
    intro b' ab;simp[ab] at h3
   obtain⟨qj,qw⟩:=q;simp only at hy ⊢;rw[hy];cases ht:a.tmps[t]? with
   | none=>rfl
   | some v=>
    cases v<;>first | rfl | (exfalso;exact h5 _ ht)
  ·cases hw
theorem ZlB {Γ:Gh} {w:World} {I:Nat→Prop}:Rep Γ w I (.tup []) undef:=⟨#[],rfl,trivial⟩
theorem Zjr {ops:List Oper} {o:Oper} {co:CO} (h:ZmK P nt ops o=some co):Zo3 ops o.guard=some co.guard∧Jo (cOp P o.type o.op)=co.op∧Xb nt o.dst=true∧co.dst=o.dst:=by
 unfold ZmK at h;obtain⟨g,h1,h⟩:=Za h;split at h
 ·cases h;exact⟨h1,rfl,by assumption,rfl⟩
 ·cases h
theorem Q7 {base:Nat} {dst:Option Nat} {sl:Sl} {hp:Hp} {e:Option Zd} {r:Sl×Hp} (h:YQ base dst sl hp e=some r):∃ ce,e=some ce∧QZ base (base+64) ce.eff.adds=true∧r=ce.on dst sl hp:=by
 unfold YQ at h;obtain⟨ce,h1,h⟩:=Za h;split at h
 ·cases h;exact⟨ce,h1,by assumption,rfl⟩
 ·cases h
theorem ZBi {ops:Array Oper} {i:Nat} {o:Oper} {aa:List Oper} (h:ops.toList.drop i=o :: aa):ops[i]?=some o∧ops.toList.drop (i+1)=aa∧i<ops.size:=by
 have h1:(ops.toList.drop i)[0]?=some o:=by rw[h];rfl
 rw[Ll] at h1;have h2:ops[i]?=some o:=by simpa using h1
 refine⟨h2,?_,(KR.1 h2).1⟩;rw[← List.drop_drop,h];rfl
theorem ZxT {C:Orc} {M:Zp} (hC:QL P C) (hB:WC C) {ops:Array Oper} {Q:Exit→Act→World→Prop} {nx m:Nat} :
  ∀ (os:List CO) (i:Nat) {sl:Sl} {hp:Hp} {r:Sl×Hp} {I:Nat→Prop} {Γ:Gh} {a:Act} {w:World},i≤ops.size→QG (ZmK P nt ops.toList) (ops.toList.drop i)=some (Zlx os)→Zff C M nx i os sl hp=some r →
   Sim nt F A I Γ (ZaX (nx+64*i)) sl hp a w→Zf0 Γ0 Γ hp→(∀ a' w',Za1 nt F A Γ0 I w { sl:=r.1,hp:=r.2,nx:=nx+64*ops.size,m:=m } a' w'→Q .normal a' w') →
   wpOps P ops Q (List.range' i (ops.size-i)) a w:=by
 intro os
 induction os with
 | nil=>
  intro i sl hp r I Γ a w ag aa hv hS hc hQ;have hd:ops.toList.drop i=[]:=by
   cases hd:ops.toList.drop i with
   | nil=>rfl
   | cons o rest=>
    rw[hd] at aa;simp only[QG] at aa;obtain⟨_,_,aa⟩:=Za aa;obtain⟨_,_,aa⟩:=Za aa;simp[Zlx] at aa
  have hi:ops.size≤i:=by
   have:=List.drop_eq_nil_iff.1 hd;simpa using this
  have am:i=ops.size:=by omega
  subst am;rw[show ops.size-ops.size=0 by omega];simp only[Zff] at hv;cases hv;simp only[List.range',wpOps];exact hQ a w (Za1.refl (st := { sl:=sl,hp:=hp,nx:=nx+64*ops.size,m:=m }) hS hc)
 | cons co os ih=>
  intro i sl hp r I Γ a w ag aa hv hS hc hQ;cases hd:ops.toList.drop i with
  | nil=>rw[hd] at aa;simp[QG,Zlx] at aa
  | cons o rest=>
   obtain⟨ho,ad,an⟩:=ZBi hd;rw[hd] at aa;simp only[QG] at aa;obtain⟨ao,h1,aa⟩:=Za aa;obtain⟨ap,h2,aa⟩:=Za aa;simp only[Zlx,Option.some.injEq,List.cons.injEq] at aa;obtain⟨rfl,rfl⟩:=aa;obtain⟨hg,ai,ae,aj⟩:=Zjr h1;dsimp only at hg ai aj;rw[show ops.size-i=(ops.size-(i+1))+1 by omega,List.range'_succ];simp only[Zff] at hv;obtain⟨b,hw,hv⟩:=Za hv;have af:=Zv2 hS hg hw;simp only[wpOps,ho,af];rw[aj] at hv;cases b with
   | true=>
    simp only[Km] at hv ⊢;obtain⟨q,hq,hv⟩:=Za hv;obtain⟨ce,ak,al,rfl⟩:=Q7 hq;refine .inl (ZCa hC hS ai (Zlz _) ae al ak _ _ fun u w' hp'=>?_);obtain⟨I1,Γ1,b1,b2,b3,b4,b5⟩:=hp';refine ih (i+1) (by omega) (by rw[ad];exact h2) hv (by rw[show nx+64*(i+1)=nx+64*i+64 by omega];exact b5.more ZlA) (UZ.cpre b1 (n:=nx+64*i) ((ZfZ hB ak).keeps al o.dst sl) hc fun id o hl=>hS.id_in hl) fun a' ah ab=>hQ a' ah (ab.step b2 b3 b4)
   | false=>
    simp only[Ka,Kq] at hv ⊢;obtain⟨I1,Γ1,b1,b2,b3,b4,b5⟩:=hS.pure (U':=ZaX (nx+64*(i+1))) (v:=.tup []) (u:=undef) (dst:=o.dst) (ZCA (by omega)) ZlB ae;exact ih (i+1) (by omega) (by rw[ad];exact h2) hv b5 (UZ.cpre b1 (Xf.refl hp (nx+64*i)) hc fun id o hl=>hS.id_in hl) fun a' ah ab=>hQ a' ah (ab.step b2 b3 b4)
theorem Zkq {hp:Hp} {ids:List Nat}:∀ {l:List Nat} {i:Nat},i∈l→i∉Zhf hp ids l→Zeo hp ids i=true
 | [],i,h,_=>by simp at h
 | x :: r,i,h,hn=>by
  simp only[Zhf] at hn;cases hl:Zeo hp ids x with
  | true=>
   rw[hl] at hn;simp only[Km] at hn;rcases Kd.1 h with rfl | h
   ·exact hl
   ·exact Zkq h hn
  | false=>
   rw[hl] at hn;simp only[Ka,Kq,Kd,not_or] at hn;rcases Kd.1 h with rfl | h
   ·exact absurd rfl hn.1
   ·exact Zkq h hn.2
def Zb7 (hp:Hp) (ids:List Nat) (Γ:Gh):Gh:=fun k=>match ids[k]? with
 | some id=>if Zaf (lkp hp id) then Γ id else some (.row none 0 0 0)
 | none=>none
theorem ZsV {hp:Hp} {ids:List Nat} {Γ:Gh} {id:Nat} (h:Zeo hp ids id=true):Zb7 hp ids Γ (WH ids id)=Γ id:=by
 simp only[Zeo,Kf,KU,Ko] at h;simp only[Zb7,(ZjU h.1).2,h.2,Km]
section
variable {I:Nat→Prop} {Γ:Gh} {U:Nat→Prop} {sl:Sl} {hp:Hp} {a:Act} {w:World}
theorem Zpp (ids:List Nat) {x:AV} {v:Value} (h:Rep Γ w I x v):Rep (Zb7 hp ids Γ) w I (Zfg hp ids x) v:=by
 refine Zob (fun id aa r hr=>?_) (ZR.refl I w) (Zu8 (bad:=Zhf hp ids (ZD x)) h);obtain⟨h1,h2⟩:=Zla _ _ id aa;rw[ZsV (Zkq h1 h2)];exact hr
theorem ZBj {ids:List Nat} {k id:Nat} (hk:ids[k]?=some id) {o:Zm} (hl:lkp hp id=some o) (ho:Wa Γ w I F A id o):Wa (Zb7 hp ids Γ) w I F A k (Zhg hp ids o):=by
 have hG:Zb7 hp ids Γ k=Γ id:=by simp[Zb7,hk,hl,Zaf]
 cases o with
 | box cs=>
  obtain⟨b,cur,e,h1,h2,h3,h4,h5,ab⟩:=ho;refine⟨b,cur,e,by rw[hG,h1],h2,h3,h4,?_,(ab.map (JC _)).map (ZcR _)⟩;have h6:Zu (XO Γ w I) (cs.map (ZV (Zhf hp ids (ZbH (.box cs))))) cur.toList:=h5.map_left fun _ _ h=>Zk8 h;refine ZeS (fun ae aa r hr=>?_) (ZR.refl I w) h6;obtain⟨y,hy,aa⟩:=Ky.1 aa;obtain⟨x,hx,rfl⟩:=Ld.1 hy;obtain⟨h7,h8⟩:=ZfE _ x ae aa;rw[ZsV (Zkq (Ky.2 ⟨x,hx,h7⟩) h8)];exact hr
 | row sz xs ex fz=>
  obtain⟨ad,n,c,h1,h2⟩:=ho;exact⟨ad,n,c,by rw[hG,h1],h2⟩
 | deep sz ns xs lk=>
  obtain⟨ad,n,c,h1,h2,_⟩:=ho;exact⟨ad,n,c,by rw[hG,h1],h2,trivial⟩
theorem ZxU (h:Sim nt F A I Γ U sl hp a w) {ids:List Nat} (ae:ids.Nodup) :
  Za6 (Zb7 hp ids Γ) w I F A (VH 0 ((Zc6 hp ids).map (Zhg hp ids))) ∧
  (∀ i j o o' b,lkp (VH 0 ((Zc6 hp ids).map (Zhg hp ids))) i=some o→lkp (VH 0 ((Zc6 hp ids).map (Zhg hp ids))) j=some o'→Blk (Zb7 hp ids Γ) w i o b→Blk (Zb7 hp ids Γ) w j o' b→i=j) ∧
  (∀ id,ids.length≤id→Zb7 hp ids Γ id=none):=by
 have get:∀ k o,lkp (VH 0 ((Zc6 hp ids).map (Zhg hp ids))) k=some o→∃ id,ids[k]?=some id∧o=Zhg hp ids (Zkb (lkp hp id)):=by
  intro k o hk;rw[Vh] at hk;simp only[LR,Km,L7,KX,ZcX,Option.map_map] at hk;cases hi:ids[k]? with
  | none=>rw[hi] at hk;cases hk
  | some id=>
   rw[hi] at hk;simp only[KI,Option.some.injEq,Function.comp_apply] at hk;exact⟨id,rfl,hk.symm⟩
 refine⟨fun k o hk=>?_,fun i j o o' b hi hj ab ad=>?_,fun id af=>?_⟩
 ·obtain⟨id,h1,rfl⟩:=get k o hk;cases hl:lkp hp id with
  | none=>exact⟨none,0,0,by simp[Zb7,h1,hl,Zaf],rfl,.inl ⟨rfl,rfl⟩⟩
  | some o0=>exact ZBj h1 hl (h.objs id o0 hl)
 ·obtain⟨id,h1,rfl⟩:=get i o hi;obtain⟨aa,h2,rfl⟩:=get j o' hj;have bk:∀ (k id:Nat) (o0:Zm),Zb7 hp ids Γ k=Γ id→Blk (Zb7 hp ids Γ) w k (Zhg hp ids o0) b→Blk Γ w id o0 b:=by
   intro k id o0 e hb;rcases hb with hb | hb | hb
   ·exact .inl (e ▸ hb)
   ·cases o0 with
    | box cs=>exact False.elim hb
    | row sz xs ex fz=>exact False.elim hb
    | deep sz ns xs lk=>obtain⟨g,p,h5,h6⟩:=hb;exact .inr (.inl ⟨g,p,e ▸ h5,h6⟩)
   ·cases o0 with
    | box cs=>exact .inr (.inr ((Buf.unmap (JC _) (Buf.unmap (ZcR _) hb)).ren e.symm))
    | row sz xs ex fz=>exact False.elim hb
    | deep sz ns xs lk=>exact False.elim hb
  cases hl:lkp hp id with
  | none=>exact(ab.nil (by simp[Zb7,h1,hl,Zaf,ZB])).elim
  | some o0=>
   cases hl' : lkp hp aa with
   | none=>exact(ad.nil (by simp[Zb7,h2,hl',Zaf,ZB])).elim
   | some o1=>
    have e1:Zb7 hp ids Γ i=Γ id:=by simp[Zb7,h1,hl,Zaf]
    have e2:Zb7 hp ids Γ j=Γ aa:=by simp[Zb7,h2,hl',Zaf]
    rw[hl] at ab;rw[hl'] at ad;have:=h.inj id aa o0 o1 b hl hl' (bk i id o0 e1 ab) (bk j aa o1 e2 ad);subst this;exact Zss ae h1 h2
 ·simp[Zb7,KW af]
theorem Zah (hp:Hp):∀ (n:Nat) (todo aa:List Nat),∃ t,QM hp n todo aa=aa++t
 | 0,todo,aa=>⟨[],by simp[QM]⟩
 | n+1,[],aa=>⟨[],by simp[QM]⟩
 | n+1,id :: todo,aa=>by
  simp only[QM];split
  ·exact Zah hp n todo aa
  ·cases lkp hp id with
   | none=>simp only[J6];exact Zah hp n todo aa
   | some o=>
    simp only[J6];obtain⟨t,ht⟩:=Zah hp n (todo++ZbH o) (aa++[id]);exact⟨id :: t,by rw[ht];simp⟩
theorem Zhk {hp:Hp} {n m:Nat} {todo:List Nat} {k:Nat} (hk:k<m):(QM hp n todo (List.range m))[k]?=some k:=by
 obtain⟨t,ht⟩:=Zah hp n todo (List.range m);rw[ht,K8 (by simpa using hk)];simp[hk]
theorem ZsW {n m:Nat} {todo:List Nat} (hc:Zf0 Γ0 Γ hp) (hm:∀ k,m≤k→Γ0 k=none) :
  Zf0 Γ0 (Zb7 hp (QM hp n todo (List.range m)) Γ) (VH 0 ((Zc6 hp (QM hp n todo (List.range m))).map (Zhg hp (QM hp n todo (List.range m))))):=by
 intro k b hk;have aa:k<m:=by
  rcases KZ k m with h | h
  ·exact h
  ·rw[hm k h] at hk;cases hk
 obtain⟨h1,cs,h2⟩:=hc k b hk;have h3:=Zhk (hp:=hp) (n:=n) (todo:=todo) aa;refine⟨by simp[Zb7,h3,h2,Zaf,h1],?_⟩;rw[Vh];simp only[LR,Km,L7,KX,ZcX,h3,KI,h2,Zkb];exact⟨_,rfl⟩
theorem Zkr {α:Type} (K:List Nat):∀ (l:List (Nat×α)) (t:Nat),lkp (only K l) t=if K.contains t then lkp l t else none
 | [],t=>by simp[only,lkp]
 | (k,v) :: r,t=>by
  simp only[only];by_cases hk:K.contains k=true
  ·rw[Kh hk];simp only[lkp,Zkr K r];by_cases aa:k=t
   ·subst aa;simp only[Km,hk]
   ·simp only[Ke aa]
  ·rw[Ke hk,Zkr K r];simp only[lkp];by_cases aa:k=t
   ·subst aa;simp only[Km];rw[Ke hk,Ke hk]
   ·simp only[Ke aa]
end
theorem Zz3 {I:Nat→Prop} {Γ:Gh} {st:St} {a:Act} {w:World} (h:Sim nt F A I Γ (ZaX st.nx) st.sl st.hp a w) (hc:Zf0 Γ0 Γ st.hp) (hm:∀ k,st.m≤k→Γ0 k=none) (K:List Nat) :
  ∃ Γ',Sim nt F A I Γ' (ZaX (WM K st).nx) (WM K st).sl (WM K st).hp a w∧Zf0 Γ0 Γ' (WM K st).hp:=by
 have aa:=(ZbI st.hp (Xd st.hp) (Zpl (only K st.sl)++WL st.hp (List.range st.m)) (List.range st.m) List.nodup_range).1;obtain⟨h1,h2,h3⟩:=ZxU h aa;refine⟨Zb7 st.hp (QM st.hp (Xd st.hp) (Zpl (only K st.sl)++WL st.hp (List.range st.m)) (List.range st.m)) Γ,
  { nt:=h.nt,dfr:=h.dfr,slots:=fun t=>?_,objs:=h1,inj:=h2,bound:=h.bound,fresh:=h.fresh,own:=h.own,names:=fun id ab=>h3 id (Nat.le_of_not_lt ab),glob:=h.glob },ZsW hc hm⟩
 show Rep _ w I (gs (Ziv _ (only K st.sl)) t) _;simp only[gs,Zdl,Zkr];have hs:=h.slots t;simp only[gs] at hs;by_cases hK:K.contains t=true
 ·rw[Kh hK];cases hl:lkp st.sl t with
  | none=>exact trivial
  | some v=>rw[hl] at hs;exact Zpp _ hs
 ·rw[Ke hK];exact trivial
end
end Go.Abs
