/- Own text. -/
import Derived.Test.YtighjmleicikhaaAbsExec2
set_option linter.unusedVariables false
set_option linter.unusedSimpArgs false
namespace Go.Abs
open Go
def Zhl (P:Program) (o:Oper) (a:Act) (w:World) (u:Value) (w' : World):Prop:=
 (execOp a.eval o).run P w=.ok (.value u) w'∨((execOp a.eval o).run P w=.ok .skip w'∧u=undef)
theorem Zhl.wp {P:Program} {o:Oper} {a:Act} {w w' : World} {u:Value} (h:Zhl P o a w u w') {K:Act→World→Prop} {Q:Exit→Act→World→Prop} (hk:K (a.put o.dst u) w'):o.wp P a w K Q:=by
 unfold Oper.wp;rcases h with h | ⟨h,rfl⟩
 ·rw[h];exact hk
 ·rw[h];exact hk
section
variable {P:Program} {Γ:Gh} {w:World} {I:Nat→Prop} {F A:Nat→Prop} {hp:Hp} {sl:Sl} {a:Act}
def ceV (r:AV):Zb := { eff := { val:=r },gone:=[] }
def Xh (P:Program) (Γ:Gh) (I:Nat→Prop) (o:Oper) (a:Act) (w:World) (ce:Zb):Prop:=
 ∃ u r,Zhl P o a w u w∧ce=ceV r∧Rep Γ w I r u
theorem ZX {v:AV} {ce:Zb} (h:Qo v=some ce):ce=ceV v:=by cases h;rfl
theorem opt1_some {v:Option AV} {ce:Zb} (h:X2 v=some ce):∃ r,v=some r∧ce=ceV r:=by
 obtain⟨r,h1,h2⟩:=Za h;exact⟨r,h1,ZX h2⟩
theorem Zex {o:Oper} {x:Operand} {y:Opd} (ho:o.op=.move x∨o.op=.assign x) (hs:W4 Γ w I sl a) (hc:ZE x=some y) {ce:Zb} (hv:Qo (evO sl y)=some ce):Xh P Γ I o a w ce:=by
 refine⟨a.eval x,_,.inl ?_,ZX hv,hs.ev hc⟩;rcases ho with ho | ho<;>simp[execOp,ho]
theorem Zo8 {o:Oper} {x y z:Operand} {x' y' z' : Opd} (ho:o.op=.pick x y z) (hs:W4 Γ w I sl a) (hx:ZE x=some x') (hy:ZE y=some y') (hz:ZE z=some z') {ce:Zb}
  (hv:Zbj (evO sl y') (evO sl z') (evO sl x')=some ce):Xh P Γ I o a w ce:=by
 have h1:=hs.ev hx;unfold Zbj at hv;split at hv
 ·rename_i t aa;rw[aa] at h1;have h2:=JK h1;split at hv
  ·rename_i ht;subst ht;exact⟨a.eval y,_,.inl (by simp[execOp,ho,h2,asBool]),ZX hv,hs.ev hy⟩
  ·rename_i ht;simp at ht;subst ht;exact⟨a.eval z,_,.inl (by simp[execOp,ho,h2,asBool]),ZX hv,hs.ev hz⟩
 ·cases hv
theorem Zo9 {o:Oper} {t:TypeId} {x:Operand} {y:Opd} {g:Bool} (ho:o.op=.load t x) (hs:W4 Γ w I sl a) (hh:Wc Γ w I F A hp) (hg:JM P t=some g) (hc:ZE x=some y) {ce:Zb}
  (hv:X2 (Y7 hp g (P.cellsOf t) (evO sl y))=some ce):Xh P Γ I o a w ce:=by
 obtain⟨r,h1,h2⟩:=opt1_some hv;obtain⟨u,h3,h4⟩:=ZlK (P:=P) hg hh (hs.ev hc) h1;exact⟨u,r,.inl (by simp[execOp,ho,h3]),h2,h4⟩
theorem Zio {o:Oper} {x:Operand} {y:Opd} (ho:o.op=.nilCheck x) (hs:W4 Γ w I sl a) (hc:ZE x=some y) {ce:Zb} (hv:Wf (evO sl y)=some ce):Xh P Γ I o a w ce:=by
 have h1:=hs.ev hc;unfold Wf at hv;split at hv
 ·rename_i h;rw[h] at h1;obtain⟨b,h2,h3⟩:=h1;exact⟨_,_,.inl (by simp[execOp,ho,h3]),ZX hv,b,h2,rfl⟩
 ·rename_i h;rw[h] at h1;obtain⟨b,n,c,h2,h3,h4⟩:=h1;exact⟨_,_,.inl (by simp[execOp,ho,h4]),ZX hv,b,n,c,h2,h3,rfl⟩
 ·rename_i h;rw[h] at h1;obtain⟨b,o',vs,h2,h3⟩:=h1;exact⟨_,_,.inl (by simp[execOp,ho,h2]),ZX hv,b,o',vs,rfl,h3⟩
 ·rename_i h;rw[h] at h1;obtain⟨us,h2,h3⟩:=h1;exact⟨_,_,.inl (by simp[execOp,ho,h2]),ZX hv,us,rfl,h3⟩
 ·cases hv
theorem Zfg {op:BinOp} {t:TypeId} {x y:Operand} {u v:Value} (hu:∀ c,u≠.agg c) (hn:u≠.nilIface):(eqGuard op t x y u v).run P w=.ok () w:=by
 unfold eqGuard;cases op<;>simp<;>(cases u<;>simp at hu hn ⊢)
theorem Zkq {t:TypeId} (h:P.underlying t=some .bool) (x y:Bool):(binOp .eql t (.bool x) (.bool y)).run P w=.ok (.bool (x==y)) w:=by
 have h1:binOp .eql t (.bool x) (.bool y)=(do let r ← Op.equalIn (9999+1) t (.bool x) (.bool y);pure (.bool r)):=rfl;rw[h1,Sem.run_bind,run_equalIn_bool' w 9999 t x y h];rfl
theorem Zkr {t:TypeId} (h:P.underlying t=some .bool) (x y:Bool):(binOp .neq t (.bool x) (.bool y)).run P w=.ok (.bool (!(x==y))) w:=by
 have h1:binOp .neq t (.bool x) (.bool y)=(do let r ← Op.equalIn (9999+1) t (.bool x) (.bool y);pure (.bool (!r))):=rfl;rw[h1,Sem.run_bind,run_equalIn_bool' w 9999 t x y h];rfl
theorem Zks {t:TypeId} (h:ZbS P t=true):P.underlying t=some .bool:=by
 unfold ZbS at h;split at h
 ·assumption
 ·cases h
theorem Zqu {o:Oper} {op:BinOp} {t ab : TypeId} {x y:Operand} {x' y' : Opd} (ho:o.op=.binOp op t x y ab) (hs:W4 Γ w I sl a) (hx:ZE x=some x') (hy:ZE y=some y') {ce:Zb}
  (hv:Zg9 op (ZbS P t) (evO sl x') (evO sl y')=some ce):Xh P Γ I o a w ce:=by
 have h1:=hs.ev hx;have h2:=hs.ev hy;have aa:∀ {d:D} {u:Value},(∀ c,a.eval x≠.agg c)→a.eval x≠.nilIface→(binOp op t (a.eval x) (a.eval y)).run P w=.ok u w→QH w I d u→ce=ceV (.d d)→Xh P Γ I o a w ce:=
  fun h3 h4 h5 h6 h7=>⟨_,_,.inl (by simp[execOp,ho,Zfg h3 h4,h5]),h7,QQ.2 h6⟩
 unfold Zg9 at hv;split at hv
 ·rename_i p q hp' hq;rw[hp'] at h1;rw[hq] at h2;have e1:=JK h1;have e2:=JK h2;split at hv
  ·rename_i hb;have hu:=Zks hb;obtain⟨r,h3,h4⟩:=opt1_some hv;unfold Zix at h3;split at h3
   ·cases h3;exact aa (by simp[e1]) (by simp[e1]) (by rw[e1,e2];exact Zkq hu _ _) (Uf _) h4
   ·cases h3;exact aa (by simp[e1]) (by simp[e1]) (by rw[e1,e2];exact Zkr hu _ _) (Uf _) h4
   ·cases h3
  ·cases hv
 ·obtain⟨r,h3,h4⟩:=opt1_some hv;unfold vbin at h3;split at h3
  ·rename_i k p k' q hp' hq;rw[hp'] at h1;rw[hq] at h2;have e1:=W5 h1;have e2:=W5 h2;unfold V9 at h3;split at h3
   ·obtain⟨d,h5,h6⟩:=Za h3;cases h6;obtain⟨u,h7,h8⟩:=Zg4 (P:=P) (w:=w) (I:=I) (k':=k') h5 t;exact aa (by simp[e1]) (by simp[e1]) (by rw[e1,e2];exact h7) h8 h4
   ·obtain⟨d,h5,h6⟩:=Za h3;cases h6;obtain⟨u,h7,h8⟩:=Zg4 (P:=P) (w:=w) (I:=I) (k':=k') h5 t;exact aa (by simp[e1]) (by simp[e1]) (by rw[e1,e2];exact h7) h8 h4
   ·split at h3
    ·rename_i hk;subst hk;obtain⟨d,h5,h6⟩:=Za h3;cases h6;obtain⟨u,h7,h8⟩:=Zqj (P:=P) (w:=w) (I:=I) h5 t;exact aa (by simp[e1]) (by simp[e1]) (by rw[e1,e2];exact h7) h8 h4
    ·cases h3
  ·rename_i p q hp' hq;rw[hp'] at h1;rw[hq] at h2;obtain⟨s1,e1,rfl⟩:=Zaf h1;obtain⟨s2,e2,rfl⟩:=Zaf h2;obtain⟨d,h5,h6⟩:=Za h3;cases h6;obtain⟨u,h7,h8⟩:=Zqk (P:=P) (w:=w) (I:=I) h5 t;exact aa (by simp[e1]) (by simp[e1]) (by rw[e1,e2];exact h7) h8 h4
  ·cases h3
theorem Zr3 {o:Oper} {op:UnOp} {t:TypeId} {x:Operand} {x' : Opd} (ho:o.op=.unOp op t x) (hs:W4 Γ w I sl a) (hx:ZE x=some x') {ce:Zb}
  (hv:X2 (vun op (evO sl x'))=some ce):Xh P Γ I o a w ce:=by
 have h1:=hs.ev hx;obtain⟨r,h3,h4⟩:=opt1_some hv;unfold vun at h3;split at h3
 ·rename_i hq;rw[hq] at h1;have e1:=W5 h1;unfold neg1 at h3;split at h3
  ·cases h3;exact⟨_,_,.inl (by simp[execOp,ho,e1,Op.unary,Op.intArith]),h4,Uy _ _⟩
  ·cases h3
 ·rename_i hq;rw[hq] at h1;have e1:=JK h1;unfold not1 at h3;split at h3
  ·cases h3;exact⟨_,_,.inl (by simp[execOp,ho,e1,Op.unary]),h4,ZoV _⟩
  ·cases h3
 ·cases h3
theorem Zpa {o:Oper} {s d:TypeId} {x:Operand} {x' : Opd} {c:COp} (ho:o.op=.convert s d x) (hs:W4 Γ w I sl a) (hx:ZE x=some x') (hc:Zn1 x' (Wg P s) (Wg P d) (Zo6 P s) (Zo6 P d)=some c)
  {C:Orc} {M:Zg} {base:Nat} {ce:Zb} (hv:vop C M sl hp base c=some ce):Xh P Γ I o a w ce:=by
 have h1:=hs.ev hx;unfold Zn1 at hc;split at hc
 ·rename_i k k' hk aa;cases hc;simp only[vop,Abs.convI] at hv;split at hv
  ·rename_i hq;rw[hq] at h1;have e1:=W5 h1;exact⟨_,_,.inl (by simp[execOp,ho,e1,convert,run_underlying (ZiR hk),run_underlying (ZiR aa),Conv.intToInt]),ZX hv,Uy _ _⟩
  ·cases hv
 ·split at hc
  ·rename_i hh;cases hc;simp at hh;simp only[vop,Abs.convS] at hv;split at hv
   ·rename_i hq;rw[hq] at h1;obtain⟨s1,e1,e2⟩:=Zaf h1;exact⟨_,_,.inl (by simp[execOp,ho,e1,convert,run_underlying (Vo hh.1),run_underlying (Vo hh.2)]),ZX hv,ZlH e2⟩
   ·cases hv
  ·cases hc
theorem Zpb {o:Oper} {t:TypeId} {f:Nat} {x:Operand} {x' : Opd} {q:Nat×TypeId} {g:Bool} (ho:o.op=.field t x f) (hs:W4 Γ w I sl a) (hq:Zal P t f=some q) (hg:JM P q.2=some g) (hx:ZE x=some x')
  {ce:Zb} (hv:X2 (ZdC g (P.cellsOf q.2) q.1 (evO sl x'))=some ce):Xh P Γ I o a w ce:=by
 obtain⟨r,h3,h4⟩:=opt1_some hv;obtain⟨cs,u,h5,h6,h7⟩:=ZlJ (P:=P) hg (hs.ev hx) h3;obtain⟨fs,y,h8,h9,aa,ab,ad⟩:=Za9 hq;refine⟨u,r,.inl ?_,h4,h7⟩;simp[execOp,ho,Instr.field,run_underlying h8,h9,h5,asAgg,aa,ab,h6]
theorem Zm6 {o:Oper} {t:TypeId} {f:Nat} {x:Operand} {x' : Opd} {q:Nat×TypeId} (ho:o.op=.fieldAddr t x f) (hs:W4 Γ w I sl a) (hq:Zal P t f=some q) (hx:ZE x=some x')
  {ce:Zb} (hv:Yx q.1 (evO sl x')=some ce):Xh P Γ I o a w ce:=by
 obtain⟨u,r,h1,h2,h3⟩:=ZoX (P:=P) hq (hs.ev hx) hv;exact⟨u,r,.inl (by simp[execOp,ho,h1]),h2,h3⟩
theorem Zqv {o:Oper} {i:Nat} {x:Operand} {x' : Opd} (ho:o.op=.extract x i) (hs:W4 Γ w I sl a) (hx:ZE x=some x')
  {ce:Zb} (hv:ZlP i (evO sl x')=some ce):Xh P Γ I o a w ce:=by
 have h1:=hs.ev hx;unfold ZlP at hv;split at hv
 ·rename_i vs hq;rw[hq] at h1;obtain⟨us,h2,h3⟩:=h1;obtain⟨r,h4,h5⟩:=opt1_some hv;obtain⟨u,h6,h7⟩:=h3.get i r h4;have aa : us[i]?=some u:=by simpa using h6
  exact⟨u,r,.inl (by simp[execOp,ho,Instr.extract,h2,aa]),h5,h7.rep⟩
 ·cases hv
theorem Zhm {x y:AV} {u v:Value} {ce:Zb} (hx:Rep Γ w I x u) (hy:Rep Γ w I y v) (at_:Array TypeId) (ty:TypeId) :
  (Zfb x y=some ce→∃ z r,(Builtin.min_ at_ ty #[u,v]).run P w=.ok z w∧ce=ceV r∧Rep Γ w I r z) ∧
  (Zfc x y=some ce→∃ z r,(Builtin.max_ at_ ty #[u,v]).run P w=.ok z w∧ce=ceV r∧Rep Γ w I r z):=by
 constructor
 ·intro h;unfold Zfb at h;split at h
  ·split at h
   ·rename_i hk;subst hk;rw[W5 hx,W5 hy];exact⟨_,_,by simp[Builtin.min_,Builtin.min2];rfl,ZX h,Uy _ _⟩
   ·cases h
  ·cases h
 ·intro h;unfold Zfc at h;split at h
  ·split at h
   ·rename_i hk;subst hk;rw[W5 hx,W5 hy];exact⟨_,_,by simp[Builtin.max_,Builtin.max2];rfl,ZX h,Uy _ _⟩
   ·cases h
  ·cases h
theorem Zm7 {o:Oper} {t:TypeId} {x i:Operand} {x' i' : Opd} {c:COp} (ho:o.op=.index t x i) (hs:W4 Γ w I sl a) (hx:ZE x=some x') (hi:ZE i=some i')
  (hc:Zkm P x' i' (Wg P t) (ZcV P t)=some c) {C:Orc} {M:Zg} {base:Nat} {ce:Zb} (hv:vop C M sl hp base c=some ce):Xh P Γ I o a w ce:=by
 have h1:=hs.ev hx;have h2:=hs.ev hi;unfold Zkm at hc;split at hc
 ·rename_i aa;cases hc;simp only[vop] at hv;obtain⟨n,hn,hv⟩:=Za hv;obtain⟨k,e2⟩:=X8 hn h2;unfold Zm1 at hv;split at hv
  ·rename_i s hq;rw[hq] at h1;obtain⟨s1,e1,rfl⟩:=Zaf h1;unfold ZlO at hv;split at hv
   ·rename_i h0;obtain⟨b,hb,hv⟩:=Za hv;have ab : s1[n.toNat]?=some b:=by
     have:s1.data[n.toNat]?=some b:=by simpa using hb
     exact this
    exact⟨_,_,.inl (by simp[execOp,ho,e1,e2,Instr.index,asIntOf,run_underlying (Vo aa),h0,ab]),ZX hv,Uy _ _⟩
   ·cases hv
  ·cases hv
 ·obtain⟨q,hq,hc⟩:=Za hc;obtain⟨g,hg,hc⟩:=Za hc;cases hc;simp only[vop] at hv;obtain⟨n,hn,hv⟩:=Za hv;obtain⟨k,e2⟩:=X8 hn h2;unfold Zo5 at hv;split at hv
  ·rename_i hb;obtain⟨r,h3,h4⟩:=opt1_some hv;obtain⟨cs,u,h5,h6,h7⟩:=ZlJ (P:=P) hg h1 h3;obtain⟨ii,ad⟩:=ZbN hg;exact⟨u,r,.inl (by simp[execOp,ho,h5,e2,Instr.index,asIntOf,run_underlying (ZiS hq),hb.1,hb.2,Qt ad,h6]),h4,h7⟩
  ·cases hv
end
end Go.Abs
