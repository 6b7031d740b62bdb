/- Own text. -/
import Derived.Test.YtnachaiejoflhaaAbsExec2
set_option linter.unusedVariables false
set_option linter.unusedSimpArgs false
namespace Go.Abs
open Go
def Zif (P:Program) (o:Oper) (a:Act) (w:World) (u:Value) (w' : World):Prop:=
 (execOp a.eval o).run P w=.ok (.value u) w'∨((execOp a.eval o).run P w=.ok .skip w'∧u=undef)
theorem Zif.wp {P:Program} {o:Oper} {a:Act} {w w' : World} {u:Value} (h:Zif P o a w u w') {K:Act→World→Prop} {Q:Exit→Act→World→Prop} (hk:K (a.put o.dst u) w'):o.wp P a w K Q:=by
 unfold Oper.wp;rcases h with h | ⟨h,rfl⟩
 ·rw[h];exact hk
 ·rw[h];exact hk
section
variable {P:Program} {Γ:Gh} {w:World} {I:Nat→Prop} {F A:Nat→Prop} {hp:Hp} {sl:Sl} {a:Act}
def ceV (r:AV):Zb := { eff := { val:=r },gone:=[] }
def Q8 (P:Program) (Γ:Gh) (I:Nat→Prop) (o:Oper) (a:Act) (w:World) (ce:Zb):Prop:=
 ∃ u r,Zif P o a w u w∧ce=ceV r∧Rep Γ w I r u
theorem Z3 {v:AV} {ce:Zb} (h:Qr v=some ce):ce=ceV v:=by cases h;rfl
theorem opt1_some {v:Option AV} {ce:Zb} (h:Yg v=some ce):∃ r,v=some r∧ce=ceV r:=by
 obtain⟨r,h1,h2⟩:=Za h;exact⟨r,h1,Z3 h2⟩
theorem ZfG {o:Oper} {x:Operand} {y:Opd} (ho:o.op=.move x∨o.op=.assign x) (hs:UB Γ w I sl a) (hc:ZL x=some y) {ce:Zb} (hv:Qr (evO sl y)=some ce):Q8 P Γ I o a w ce:=by
 refine⟨a.eval x,_,.inl ?_,Z3 hv,hs.ev hc⟩;rcases ho with ho | ho<;>simp[execOp,ho]
theorem ZqX {o:Oper} {x y z:Operand} {x' y' z' : Opd} (ho:o.op=.pick x y z) (hs:UB Γ w I sl a) (hx:ZL x=some x') (hy:ZL y=some y') (hz:ZL z=some z') {ce:Zb}
  (hv:Zce (evO sl y') (evO sl z') (evO sl x')=some ce):Q8 P Γ I o a w ce:=by
 have h1:=hs.ev hx;unfold Zce at hv;split at hv
 ·rename_i t aa;rw[aa] at h1;have h2:=Zax h1;split at hv
  ·rename_i ht;subst ht;exact⟨a.eval y,_,.inl (by simp[execOp,ho,h2,asBool]),Z3 hv,hs.ev hy⟩
  ·rename_i ht;simp at ht;subst ht;exact⟨a.eval z,_,.inl (by simp[execOp,ho,h2,asBool]),Z3 hv,hs.ev hz⟩
 ·cases hv
theorem ZqY {o:Oper} {t:TypeId} {x:Operand} {y:Opd} {g:Bool} (ho:o.op=.load t x) (hs:UB Γ w I sl a) (hh:WK Γ w I F A hp) (hg:ZaA P t=some g) (hc:ZL x=some y) {ce:Zb}
  (hv:Yg (Vc hp g (P.cellsOf t) (evO sl y))=some ce):Q8 P Γ I o a w ce:=by
 obtain⟨r,h1,h2⟩:=opt1_some hv;obtain⟨u,h3,h4⟩:=Zna (P:=P) hg hh (hs.ev hc) h1;exact⟨u,r,.inl (by simp[execOp,ho,h3]),h2,h4⟩
theorem Zjs {o:Oper} {x:Operand} {y:Opd} (ho:o.op=.nilCheck x) (hs:UB Γ w I sl a) (hc:ZL x=some y) {ce:Zb} (hv:WM (evO sl y)=some ce):Q8 P Γ I o a w ce:=by
 have h1:=hs.ev hc;unfold WM at hv;split at hv
 ·rename_i h;rw[h] at h1;obtain⟨b,h2,h3⟩:=h1;exact⟨_,_,.inl (by simp[execOp,ho,h3]),Z3 hv,b,h2,rfl⟩
 ·rename_i h;rw[h] at h1;obtain⟨b,n,c,h2,h3,h4⟩:=h1;exact⟨_,_,.inl (by simp[execOp,ho,h4]),Z3 hv,b,n,c,h2,h3,rfl⟩
 ·rename_i h;rw[h] at h1;obtain⟨b,o',vs,h2,h3⟩:=h1;exact⟨_,_,.inl (by simp[execOp,ho,h2]),Z3 hv,b,o',vs,rfl,h3⟩
 ·rename_i h;rw[h] at h1;obtain⟨us,h2,h3⟩:=h1;exact⟨_,_,.inl (by simp[execOp,ho,h2]),Z3 hv,us,rfl,h3⟩
 ·cases hv
theorem ZgA {op:BinOp} {t:TypeId} {x y:Operand} {u v:Value} (hu:∀ c,u≠.agg c) (hn:u≠.nilIface):(eqGuard op t x y u v).run P w=.ok () w:=by
 unfold eqGuard;cases op<;>simp<;>(cases u<;>simp at hu hn ⊢)
theorem ZlO {t:TypeId} (h:P.underlying t=some .bool) (x y:Bool):(binOp .eql t (.bool x) (.bool y)).run P w=.ok (.bool (x==y)) w:=by
 have h1:binOp .eql t (.bool x) (.bool y)=(do let r ← Op.equalIn (9999+1) t (.bool x) (.bool y);pure (.bool r)):=rfl;rw[h1,Sem.run_bind,run_equalIn_bool' w 9999 t x y h];rfl
theorem ZlP {t:TypeId} (h:P.underlying t=some .bool) (x y:Bool):(binOp .neq t (.bool x) (.bool y)).run P w=.ok (.bool (!(x==y))) w:=by
 have h1:binOp .neq t (.bool x) (.bool y)=(do let r ← Op.equalIn (9999+1) t (.bool x) (.bool y);pure (.bool (!r))):=rfl;rw[h1,Sem.run_bind,run_equalIn_bool' w 9999 t x y h];rfl
theorem ZlQ {t:TypeId} (h:Zc4 P t=true):P.underlying t=some .bool:=by
 unfold Zc4 at h;split at h
 ·assumption
 ·cases h
theorem ZrW {o:Oper} {op:BinOp} {t ab : TypeId} {x y:Operand} {x' y' : Opd} (ho:o.op=.binOp op t x y ab) (hs:UB Γ w I sl a) (hx:ZL x=some x') (hy:ZL y=some y') {ce:Zb}
  (hv:Zh4 op (Zc4 P t) (evO sl x') (evO sl y')=some ce):Q8 P Γ I o a w ce:=by
 have h1:=hs.ev hx;have h2:=hs.ev hy;have aa:∀ {d:D} {u:Value},(∀ c,a.eval x≠.agg c)→a.eval x≠.nilIface→(binOp op t (a.eval x) (a.eval y)).run P w=.ok u w→QF w I d u→ce=ceV (.d d)→Q8 P Γ I o a w ce:=
  fun h3 h4 h5 h6 h7=>⟨_,_,.inl (by simp[execOp,ho,ZgA h3 h4,h5]),h7,QL.2 h6⟩
 unfold Zh4 at hv;split at hv
 ·rename_i p q hp' hq;rw[hp'] at h1;rw[hq] at h2;have e1:=Zax h1;have e2:=Zax h2;split at hv
  ·rename_i hb;have hu:=ZlQ hb;obtain⟨r,h3,h4⟩:=opt1_some hv;unfold Zkj at h3;split at h3
   ·cases h3;exact aa (by simp[e1]) (by simp[e1]) (by rw[e1,e2];exact ZlO hu _ _) (UO _) h4
   ·cases h3;exact aa (by simp[e1]) (by simp[e1]) (by rw[e1,e2];exact ZlP hu _ _) (UO _) h4
   ·cases h3
  ·cases hv
 ·obtain⟨r,h3,h4⟩:=opt1_some hv;unfold vbin at h3;split at h3
  ·rename_i k p k' q hp' hq;rw[hp'] at h1;rw[hq] at h2;have e1:=UC h1;have e2:=UC h2;unfold WH at h3;split at h3
   ·obtain⟨d,h5,h6⟩:=Za h3;cases h6;obtain⟨u,h7,h8⟩:=ZhZ (P:=P) (w:=w) (I:=I) (k':=k') h5 t;exact aa (by simp[e1]) (by simp[e1]) (by rw[e1,e2];exact h7) h8 h4
   ·obtain⟨d,h5,h6⟩:=Za h3;cases h6;obtain⟨u,h7,h8⟩:=ZhZ (P:=P) (w:=w) (I:=I) (k':=k') h5 t;exact aa (by simp[e1]) (by simp[e1]) (by rw[e1,e2];exact h7) h8 h4
   ·split at h3
    ·rename_i hk;subst hk;obtain⟨d,h5,h6⟩:=Za h3;cases h6;obtain⟨u,h7,h8⟩:=ZrQ (P:=P) (w:=w) (I:=I) h5 t;exact aa (by simp[e1]) (by simp[e1]) (by rw[e1,e2];exact h7) h8 h4
    ·cases h3
  ·rename_i p q hp' hq;rw[hp'] at h1;rw[hq] at h2;obtain⟨s1,e1,rfl⟩:=ZaV h1;obtain⟨s2,e2,rfl⟩:=ZaV h2;obtain⟨d,h5,h6⟩:=Za h3;cases h6;obtain⟨u,h7,h8⟩:=ZrR (P:=P) (w:=w) (I:=I) h5 t;exact aa (by simp[e1]) (by simp[e1]) (by rw[e1,e2];exact h7) h8 h4
  ·cases h3
theorem Ztu {o:Oper} {op:UnOp} {t:TypeId} {x:Operand} {x' : Opd} (ho:o.op=.unOp op t x) (hs:UB Γ w I sl a) (hx:ZL x=some x') {ce:Zb}
  (hv:Yg (vun op (evO sl x'))=some ce):Q8 P Γ I o a w ce:=by
 have h1:=hs.ev hx;obtain⟨r,h3,h4⟩:=opt1_some hv;unfold vun at h3;split at h3
 ·rename_i hq;rw[hq] at h1;have e1:=UC h1;unfold neg1 at h3;split at h3
  ·cases h3;exact⟨_,_,.inl (by simp[execOp,ho,e1,Op.unary,Op.intArith]),h4,UV _ _⟩
  ·cases h3
 ·rename_i hq;rw[hq] at h1;have e1:=Zax h1;unfold not1 at h3;split at h3
  ·cases h3;exact⟨_,_,.inl (by simp[execOp,ho,e1,Op.unary]),h4,ZqJ _⟩
  ·cases h3
 ·cases h3
theorem ZqZ {o:Oper} {s d:TypeId} {x:Operand} {x' : Opd} {c:COp} (ho:o.op=.convert s d x) (hs:UB Γ w I sl a) (hx:ZL x=some x') (hc:ZpV x' (WN P s) (WN P d) (ZqU P s) (ZqU P d)=some c)
  {C:Orc} {M:Zj} {base:Nat} {ce:Zb} (hv:vop C M sl hp base c=some ce):Q8 P Γ I o a w ce:=by
 have h1:=hs.ev hx;unfold ZpV at hc;split at hc
 ·rename_i k k' hk aa;cases hc;simp only[vop,Abs.convI] at hv;split at hv
  ·rename_i hq;rw[hq] at h1;have e1:=UC h1;exact⟨_,_,.inl (by simp[execOp,ho,e1,convert,run_underlying (ZkD hk),run_underlying (ZkD aa),Conv.intToInt]),Z3 hv,UV _ _⟩
  ·cases hv
 ·split at hc
  ·rename_i hh;cases hc;simp at hh;simp only[vop,Abs.convS] at hv;split at hv
   ·rename_i hq;rw[hq] at h1;obtain⟨s1,e1,e2⟩:=ZaV h1;exact⟨_,_,.inl (by simp[execOp,ho,e1,convert,run_underlying (VI hh.1),run_underlying (VI hh.2)]),Z3 hv,Zm7 e2⟩
   ·cases hv
  ·cases hc
theorem Zq0 {o:Oper} {t:TypeId} {f:Nat} {x:Operand} {x' : Opd} {q:Nat×TypeId} {g:Bool} (ho:o.op=.field t x f) (hs:UB Γ w I sl a) (hq:Za1 P t f=some q) (hg:ZaA P q.2=some g) (hx:ZL x=some x')
  {ce:Zb} (hv:Yg (ZeM g (P.cellsOf q.2) q.1 (evO sl x'))=some ce):Q8 P Γ I o a w ce:=by
 obtain⟨r,h3,h4⟩:=opt1_some hv;obtain⟨cs,u,h5,h6,h7⟩:=Zm9 (P:=P) hg (hs.ev hx) h3;obtain⟨fs,y,h8,h9,aa,ab,ad⟩:=Zb3 hq;refine⟨u,r,.inl ?_,h4,h7⟩;simp[execOp,ho,Instr.field,run_underlying h8,h9,h5,asAgg,aa,ab,h6]
theorem ZoW {o:Oper} {t:TypeId} {f:Nat} {x:Operand} {x' : Opd} {q:Nat×TypeId} (ho:o.op=.fieldAddr t x f) (hs:UB Γ w I sl a) (hq:Za1 P t f=some q) (hx:ZL x=some x')
  {ce:Zb} (hv:YD q.1 (evO sl x')=some ce):Q8 P Γ I o a w ce:=by
 obtain⟨u,r,h1,h2,h3⟩:=ZqL (P:=P) hq (hs.ev hx) hv;exact⟨u,r,.inl (by simp[execOp,ho,h1]),h2,h3⟩
theorem ZrX {o:Oper} {i:Nat} {x:Operand} {x' : Opd} (ho:o.op=.extract x i) (hs:UB Γ w I sl a) (hx:ZL x=some x')
  {ce:Zb} (hv:Znf i (evO sl x')=some ce):Q8 P Γ I o a w ce:=by
 have h1:=hs.ev hx;unfold Znf at hv;split at hv
 ·rename_i vs hq;rw[hq] at h1;obtain⟨us,h2,h3⟩:=h1;obtain⟨r,h4,h5⟩:=opt1_some hv;obtain⟨u,h6,h7⟩:=h3.get i r h4;have aa : us[i]?=some u:=by simpa using h6
  exact⟨u,r,.inl (by simp[execOp,ho,Instr.extract,h2,aa]),h5,h7.rep⟩
 ·cases hv
theorem Zig {x y:AV} {u v:Value} {ce:Zb} (hx:Rep Γ w I x u) (hy:Rep Γ w I y v) (at_:Array TypeId) (ty:TypeId) :
  (Zgw x y=some ce→∃ z r,(Builtin.min_ at_ ty #[u,v]).run P w=.ok z w∧ce=ceV r∧Rep Γ w I r z) ∧
  (Zgx x y=some ce→∃ z r,(Builtin.max_ at_ ty #[u,v]).run P w=.ok z w∧ce=ceV r∧Rep Γ w I r z):=by
 constructor
 ·intro h;unfold Zgw at h;split at h
  ·split at h
   ·rename_i hk;subst hk;rw[UC hx,UC hy];exact⟨_,_,by simp[Builtin.min_,Builtin.min2];rfl,Z3 h,UV _ _⟩
   ·cases h
  ·cases h
 ·intro h;unfold Zgx at h;split at h
  ·split at h
   ·rename_i hk;subst hk;rw[UC hx,UC hy];exact⟨_,_,by simp[Builtin.max_,Builtin.max2];rfl,Z3 h,UV _ _⟩
   ·cases h
  ·cases h
theorem ZoX {o:Oper} {t:TypeId} {x i:Operand} {x' i' : Opd} {c:COp} (ho:o.op=.index t x i) (hs:UB Γ w I sl a) (hx:ZL x=some x') (hi:ZL i=some i')
  (hc:ZlM P x' i' (WN P t) (ZdZ P t)=some c) {C:Orc} {M:Zj} {base:Nat} {ce:Zb} (hv:vop C M sl hp base c=some ce):Q8 P Γ I o a w ce:=by
 have h1:=hs.ev hx;have h2:=hs.ev hi;unfold ZlM at hc;split at hc
 ·rename_i aa;cases hc;simp only[vop] at hv;obtain⟨n,hn,hv⟩:=Za hv;obtain⟨k,e2⟩:=Yk hn h2;unfold ZoQ at hv;split at hv
  ·rename_i s hq;rw[hq] at h1;obtain⟨s1,e1,rfl⟩:=ZaV h1;unfold Zne at hv;split at hv
   ·rename_i h0;obtain⟨b,hb,hv⟩:=Za hv;have ab : s1[n.toNat]?=some b:=by
     have:s1.data[n.toNat]?=some b:=by simpa using hb
     exact this
    exact⟨_,_,.inl (by simp[execOp,ho,e1,e2,Instr.index,asIntOf,run_underlying (VI aa),h0,ab]),Z3 hv,UV _ _⟩
   ·cases hv
  ·cases hv
 ·obtain⟨q,hq,hc⟩:=Za hc;obtain⟨g,hg,hc⟩:=Za hc;cases hc;simp only[vop] at hv;obtain⟨n,hn,hv⟩:=Za hv;obtain⟨k,e2⟩:=Yk hn h2;unfold ZqT at hv;split at hv
  ·rename_i hb;obtain⟨r,h3,h4⟩:=opt1_some hv;obtain⟨cs,u,h5,h6,h7⟩:=Zm9 (P:=P) hg h1 h3;obtain⟨ii,ad⟩:=ZcZ hg;exact⟨u,r,.inl (by simp[execOp,ho,h5,e2,Instr.index,asIntOf,run_underlying (ZkE hq),hb.1,hb.2,Qw ad,h6]),h4,h7⟩
  ·cases hv
end
end Go.Abs
