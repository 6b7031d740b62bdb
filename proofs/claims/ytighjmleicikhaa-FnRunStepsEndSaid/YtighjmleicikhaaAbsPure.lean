/- Own text. -/
import Derived.Test.YtighjmleicikhaaAbsExec2
set_option linter.unusedVariables false
set_option linter.unusedSimpArgs false
namespace Go.Abs
open Go
def ZgQ (P:Program) (o:Oper) (a:Act) (w:World) (u:Value) (w' : World):Prop:=
 (execOp a.eval o).run P w=.ok (.value u) w'∨((execOp a.eval o).run P w=.ok .skip w'∧u=undef)
theorem ZgQ.wp {P:Program} {o:Oper} {a:Act} {w w' : World} {u:Value} (h:ZgQ P o a w u w') {K:Act→World→Prop} {Q:Exit→Act→World→Prop} (hk:K (a.put o.dst u) w'):o.wp P a w K Q:=by
 unfold Oper.wp;rcases h with h | ⟨h,rfl⟩
 ·rw[h];exact hk
 ·rw[h];exact hk
section
variable {P:Program} {Γ:Gh} {w:World} {I:Nat→Prop} {F A:Nat→Prop} {hp:Hp} {sl:Sl} {a:Act}
def ceV (r:AV):Zb := { eff := { val:=r },gone:=[] }
def Xo (P:Program) (Γ:Gh) (I:Nat→Prop) (o:Oper) (a:Act) (w:World) (ce:Zb):Prop:=
 ∃ u r,ZgQ P o a w u w∧ce=ceV r∧Rep Γ w I r u
theorem Z0 {v:AV} {ce:Zb} (h:Qk v=some ce):ce=ceV v:=by cases h;rfl
theorem opt1_some {v:Option AV} {ce:Zb} (h:Yq v=some ce):∃ r,v=some r∧ce=ceV r:=by
 obtain⟨r,h1,h2⟩:=Za h;exact⟨r,h1,Z0 h2⟩
theorem Zeo {o:Oper} {x:Operand} {y:Opd} (ho:o.op=.move x∨o.op=.assign x) (hs:Uu Γ w I sl a) (hc:ZI x=some y) {ce:Zb} (hv:Qk (evO sl y)=some ce):Xo P Γ I o a w ce:=by
 refine⟨a.eval x,_,.inl ?_,Z0 hv,hs.ev hc⟩;rcases ho with ho | ho<;>simp[execOp,ho]
theorem Zoj {o:Oper} {x y z:Operand} {x' y' z' : Opd} (ho:o.op=.pick x y z) (hs:Uu Γ w I sl a) (hx:ZI x=some x') (hy:ZI y=some y') (hz:ZI z=some z') {ce:Zb}
  (hv:Zbm (evO sl y') (evO sl z') (evO sl x')=some ce):Xo P Γ I o a w ce:=by
 have h1:=hs.ev hx;unfold Zbm at hv;split at hv
 ·rename_i t aa;rw[aa] at h1;have h2:=J2 h1;split at hv
  ·rename_i ht;subst ht;exact⟨a.eval y,_,.inl (by simp[execOp,ho,h2,asBool]),Z0 hv,hs.ev hy⟩
  ·rename_i ht;simp at ht;subst ht;exact⟨a.eval z,_,.inl (by simp[execOp,ho,h2,asBool]),Z0 hv,hs.ev hz⟩
 ·cases hv
theorem Zok {o:Oper} {t:TypeId} {x:Operand} {y:Opd} {g:Bool} (ho:o.op=.load t x) (hs:Uu Γ w I sl a) (hh:WO Γ w I F A hp) (hg:J4 P t=some g) (hc:ZI x=some y) {ce:Zb}
  (hv:Yq (Vo hp g (P.cellsOf t) (evO sl y))=some ce):Xo P Γ I o a w ce:=by
 obtain⟨r,h1,h2⟩:=opt1_some hv;obtain⟨u,h3,h4⟩:=ZkX (P:=P) hg hh (hs.ev hc) h1;exact⟨u,r,.inl (by simp[execOp,ho,h3]),h2,h4⟩
theorem ZhX {o:Oper} {x:Operand} {y:Opd} (ho:o.op=.nilCheck x) (hs:Uu Γ w I sl a) (hc:ZI x=some y) {ce:Zb} (hv:WQ (evO sl y)=some ce):Xo P Γ I o a w ce:=by
 have h1:=hs.ev hc;unfold WQ at hv;split at hv
 ·rename_i h;rw[h] at h1;obtain⟨b,h2,h3⟩:=h1;exact⟨_,_,.inl (by simp[execOp,ho,h3]),Z0 hv,b,h2,rfl⟩
 ·rename_i h;rw[h] at h1;obtain⟨b,o1,n,c,h2,h3,h4⟩:=h1;exact⟨_,_,.inl (by simp[execOp,ho,h4]),Z0 hv,b,o1,n,c,h2,h3,rfl⟩
 ·rename_i h;rw[h] at h1;obtain⟨b,o',vs,h2,h3⟩:=h1;exact⟨_,_,.inl (by simp[execOp,ho,h2]),Z0 hv,b,o',vs,rfl,h3⟩
 ·rename_i h;rw[h] at h1;obtain⟨us,h2,h3⟩:=h1;exact⟨_,_,.inl (by simp[execOp,ho,h2]),Z0 hv,us,rfl,h3⟩
 ·cases hv
theorem Zfe {op:BinOp} {t:TypeId} {x y:Operand} {u v:Value} (hu:∀ c,u≠.agg c) (hn:u≠.nilIface):(eqGuard op t x y u v).run P w=.ok () w:=by
 unfold eqGuard;cases op<;>simp<;>(cases u<;>simp at hu hn ⊢)
theorem ZjR {t:TypeId} (h:P.underlying t=some .bool) (x y:Bool):(binOp .eql t (.bool x) (.bool y)).run P w=.ok (.bool (x==y)) w:=by
 have h1:binOp .eql t (.bool x) (.bool y)=(do let r ← Op.equalIn (9999+1) t (.bool x) (.bool y);pure (.bool r)):=rfl;rw[h1,Sem.run_bind,run_equalIn_bool' w 9999 t x y h];rfl
theorem ZjS {t:TypeId} (h:P.underlying t=some .bool) (x y:Bool):(binOp .neq t (.bool x) (.bool y)).run P w=.ok (.bool (!(x==y))) w:=by
 have h1:binOp .neq t (.bool x) (.bool y)=(do let r ← Op.equalIn (9999+1) t (.bool x) (.bool y);pure (.bool (!r))):=rfl;rw[h1,Sem.run_bind,run_equalIn_bool' w 9999 t x y h];rfl
theorem ZjT {t:TypeId} (h:Zb0 P t=true):P.underlying t=some .bool:=by
 unfold Zb0 at h;split at h
 ·assumption
 ·cases h
theorem Zpl {o:Oper} {op:BinOp} {t ab : TypeId} {x y:Operand} {x' y' : Opd} (ho:o.op=.binOp op t x y ab) (hs:Uu Γ w I sl a) (hx:ZI x=some x') (hy:ZI y=some y') {ce:Zb}
  (hv:Zfo op (Zb0 P t) (evO sl x') (evO sl y')=some ce):Xo P Γ I o a w ce:=by
 have h1:=hs.ev hx;have h2:=hs.ev hy;have aa:∀ {d:D} {u:Value},(∀ c,a.eval x≠.agg c)→a.eval x≠.nilIface→(binOp op t (a.eval x) (a.eval y)).run P w=.ok u w→Xd w I d u→ce=ceV (.d d)→Xo P Γ I o a w ce:=
  fun h3 h4 h5 h6 h7=>⟨_,_,.inl (by simp[execOp,ho,Zfe h3 h4,h5]),h7,Q4.2 h6⟩
 unfold Zfo at hv;split at hv
 ·rename_i p q hp' hq;rw[hp'] at h1;rw[hq] at h2;have e1:=J2 h1;have e2:=J2 h2;split at hv
  ·rename_i hb;have hu:=ZjT hb;obtain⟨r,h3,h4⟩:=opt1_some hv;unfold Zio at h3;split at h3
   ·cases h3;exact aa (by simp[e1]) (by simp[e1]) (by rw[e1,e2];exact ZjR hu _ _) (UI _) h4
   ·cases h3;exact aa (by simp[e1]) (by simp[e1]) (by rw[e1,e2];exact ZjS hu _ _) (UI _) h4
   ·cases h3
  ·cases hv
 ·obtain⟨r,h3,h4⟩:=opt1_some hv;unfold vbin at h3;split at h3
  ·rename_i k p k' q hp' hq;rw[hp'] at h1;rw[hq] at h2;have e1:=Uv h1;have e2:=Uv h2;unfold V9 at h3;split at h3
   ·obtain⟨d,h5,h6⟩:=Za h3;cases h6;obtain⟨u,h7,h8⟩:=Zgy (P:=P) (w:=w) (I:=I) (k':=k') h5 t;exact aa (by simp[e1]) (by simp[e1]) (by rw[e1,e2];exact h7) h8 h4
   ·obtain⟨d,h5,h6⟩:=Za h3;cases h6;obtain⟨u,h7,h8⟩:=Zgy (P:=P) (w:=w) (I:=I) (k':=k') h5 t;exact aa (by simp[e1]) (by simp[e1]) (by rw[e1,e2];exact h7) h8 h4
   ·split at h3
    ·rename_i hk;subst hk;obtain⟨d,h5,h6⟩:=Za h3;cases h6;obtain⟨u,h7,h8⟩:=Zpa (P:=P) (w:=w) (I:=I) h5 t;exact aa (by simp[e1]) (by simp[e1]) (by rw[e1,e2];exact h7) h8 h4
    ·cases h3
  ·rename_i p q hp' hq;rw[hp'] at h1;rw[hq] at h2;obtain⟨s1,e1,rfl⟩:=Zap h1;obtain⟨s2,e2,rfl⟩:=Zap h2;obtain⟨d,h5,h6⟩:=Za h3;cases h6;obtain⟨u,h7,h8⟩:=Zpb (P:=P) (w:=w) (I:=I) h5 t;exact aa (by simp[e1]) (by simp[e1]) (by rw[e1,e2];exact h7) h8 h4
  ·cases h3
theorem ZqC {o:Oper} {op:UnOp} {t:TypeId} {x:Operand} {x' : Opd} (ho:o.op=.unOp op t x) (hs:Uu Γ w I sl a) (hx:ZI x=some x') {ce:Zb}
  (hv:Yq (vun op (evO sl x'))=some ce):Xo P Γ I o a w ce:=by
 have h1:=hs.ev hx;obtain⟨r,h3,h4⟩:=opt1_some hv;unfold vun at h3;split at h3
 ·rename_i hq;rw[hq] at h1;have e1:=Uv h1;unfold neg1 at h3;split at h3
  ·cases h3;exact⟨_,_,.inl (by simp[execOp,ho,e1,Op.unary,Op.intArith]),h4,UP _ _⟩
  ·cases h3
 ·rename_i hq;rw[hq] at h1;have e1:=J2 h1;unfold not1 at h3;split at h3
  ·cases h3;exact⟨_,_,.inl (by simp[execOp,ho,e1,Op.unary]),h4,Zn5 _⟩
  ·cases h3
 ·cases h3
theorem Zol {o:Oper} {s d:TypeId} {x:Operand} {x' : Opd} {c:COp} (ho:o.op=.convert s d x) (hs:Uu Γ w I sl a) (hx:ZI x=some x') (hc:Znf x' (WR P s) (WR P d) (Zoi P s) (Zoi P d)=some c)
  {C:Orc} {M:Zg} {base:Nat} {ce:Zb} (hv:vop C M sl hp base c=some ce):Xo P Γ I o a w ce:=by
 have h1:=hs.ev hx;unfold Znf at hc;split at hc
 ·rename_i k k' hk aa;cases hc;simp only[vop,Abs.convI] at hv;split at hv
  ·rename_i hq;rw[hq] at h1;have e1:=Uv h1;exact⟨_,_,.inl (by simp[execOp,ho,e1,convert,run_underlying (ZiI hk),run_underlying (ZiI aa),Conv.intToInt]),Z0 hv,UP _ _⟩
  ·cases hv
 ·split at hc
  ·rename_i hh;cases hc;simp at hh;simp only[vop,Abs.convS] at hv;split at hv
   ·rename_i hq;rw[hq] at h1;obtain⟨s1,e1,e2⟩:=Zap h1;exact⟨_,_,.inl (by simp[execOp,ho,e1,convert,run_underlying (VS hh.1),run_underlying (VS hh.2)]),Z0 hv,ZkU e2⟩
   ·cases hv
  ·cases hc
theorem Zom {o:Oper} {t:TypeId} {f:Nat} {x:Operand} {x' : Opd} {q:Nat×TypeId} {g:Bool} (ho:o.op=.field t x f) (hs:Uu Γ w I sl a) (hq:Zav P t f=some q) (hg:J4 P q.2=some g) (hx:ZI x=some x')
  {ce:Zb} (hv:Yq (ZdA g (P.cellsOf q.2) q.1 (evO sl x'))=some ce):Xo P Γ I o a w ce:=by
 obtain⟨r,h3,h4⟩:=opt1_some hv;obtain⟨cs,u,h5,h6,h7⟩:=ZkW (P:=P) hg (hs.ev hx) h3;obtain⟨fs,y,h8,h9,aa,ab,ad⟩:=Zbd hq;refine⟨u,r,.inl ?_,h4,h7⟩;simp[execOp,ho,Instr.field,run_underlying h8,h9,h5,asAgg,aa,ab,h6]
theorem Zmj {o:Oper} {t:TypeId} {f:Nat} {x:Operand} {x' : Opd} {q:Nat×TypeId} (ho:o.op=.fieldAddr t x f) (hs:Uu Γ w I sl a) (hq:Zav P t f=some q) (hx:ZI x=some x')
  {ce:Zb} (hv:YN q.1 (evO sl x')=some ce):Xo P Γ I o a w ce:=by
 obtain⟨u,r,h1,h2,h3⟩:=Zn7 (P:=P) hq (hs.ev hx) hv;exact⟨u,r,.inl (by simp[execOp,ho,h1]),h2,h3⟩
theorem Zpm {o:Oper} {i:Nat} {x:Operand} {x' : Opd} (ho:o.op=.extract x i) (hs:Uu Γ w I sl a) (hx:ZI x=some x')
  {ce:Zb} (hv:Zk2 i (evO sl x')=some ce):Xo P Γ I o a w ce:=by
 have h1:=hs.ev hx;unfold Zk2 at hv;split at hv
 ·rename_i vs hq;rw[hq] at h1;obtain⟨us,h2,h3⟩:=h1;obtain⟨r,h4,h5⟩:=opt1_some hv;obtain⟨u,h6,h7⟩:=h3.get i r h4;have aa : us[i]?=some u:=by simpa using h6
  exact⟨u,r,.inl (by simp[execOp,ho,Instr.extract,h2,aa]),h5,h7.rep⟩
 ·cases hv
theorem ZgR {x y:AV} {u v:Value} {ce:Zb} (hx:Rep Γ w I x u) (hy:Rep Γ w I y v) (at_:Array TypeId) (ty:TypeId) :
  (Ze9 x y=some ce→∃ z r,(Builtin.min_ at_ ty #[u,v]).run P w=.ok z w∧ce=ceV r∧Rep Γ w I r z) ∧
  (Zfa x y=some ce→∃ z r,(Builtin.max_ at_ ty #[u,v]).run P w=.ok z w∧ce=ceV r∧Rep Γ w I r z):=by
 constructor
 ·intro h;unfold Ze9 at h;split at h
  ·split at h
   ·rename_i hk;subst hk;rw[Uv hx,Uv hy];exact⟨_,_,by simp[Builtin.min_,Builtin.min2];rfl,Z0 h,UP _ _⟩
   ·cases h
  ·cases h
 ·intro h;unfold Zfa at h;split at h
  ·split at h
   ·rename_i hk;subst hk;rw[Uv hx,Uv hy];exact⟨_,_,by simp[Builtin.max_,Builtin.max2];rfl,Z0 h,UP _ _⟩
   ·cases h
  ·cases h
theorem Zmk {o:Oper} {t:TypeId} {x i:Operand} {x' i' : Opd} {c:COp} (ho:o.op=.index t x i) (hs:Uu Γ w I sl a) (hx:ZI x=some x') (hi:ZI i=some i')
  (hc:ZjO P x' i' (WR P t) (ZcR P t)=some c) {C:Orc} {M:Zg} {base:Nat} {ce:Zb} (hv:vop C M sl hp base c=some ce):Xo P Γ I o a w ce:=by
 have h1:=hs.ev hx;have h2:=hs.ev hi;unfold ZjO at hc;split at hc
 ·rename_i aa;cases hc;simp only[vop] at hv;obtain⟨n,hn,hv⟩:=Za hv;obtain⟨k,e2⟩:=Yw hn h2;unfold Zme at hv;split at hv
  ·rename_i s hq;rw[hq] at h1;obtain⟨s1,e1,rfl⟩:=Zap h1;unfold Zk1 at hv;split at hv
   ·rename_i h0;obtain⟨b,hb,hv⟩:=Za hv;have ab : s1[n.toNat]?=some b:=by
     have:s1.data[n.toNat]?=some b:=by simpa using hb
     exact this
    exact⟨_,_,.inl (by simp[execOp,ho,e1,e2,Instr.index,asIntOf,run_underlying (VS aa),h0,ab]),Z0 hv,UP _ _⟩
   ·cases hv
  ·cases hv
 ·obtain⟨q,hq,hc⟩:=Za hc;obtain⟨g,hg,hc⟩:=Za hc;cases hc;simp only[vop] at hv;obtain⟨n,hn,hv⟩:=Za hv;obtain⟨k,e2⟩:=Yw hn h2;unfold Zoh at hv;split at hv
  ·rename_i hb;obtain⟨r,h3,h4⟩:=opt1_some hv;obtain⟨cs,u,h5,h6,h7⟩:=ZkW (P:=P) hg h1 h3;obtain⟨ii,ad⟩:=ZbV hg;exact⟨u,r,.inl (by simp[execOp,ho,h5,e2,Instr.index,asIntOf,run_underlying (ZiJ hq),hb.1,hb.2,Qu ad,h6]),h4,h7⟩
  ·cases hv
end
end Go.Abs
