/- Own text. -/
import Derived.Test.YtighjmleicikhaaAbsExec2
set_option linter.unusedVariables false
set_option linter.unusedSimpArgs false
namespace Go.Abs
open Go
def ZeQ (P:Program) (o:Oper) (a:Act) (w:World) (u:Value) (w' : World):Prop:=
 (execOp a.eval o).run P w=.ok (.value u) w'∨((execOp a.eval o).run P w=.ok .skip w'∧u=undef)
theorem ZeQ.wp {P:Program} {o:Oper} {a:Act} {w w' : World} {u:Value} (h:ZeQ P o a w u w') {K:Act→World→Prop} {Q:Exit→Act→World→Prop} (hk:K (a.put o.dst u) w'):o.wp P a w K Q:=by
 unfold Oper.wp;rcases h with h | ⟨h,rfl⟩
 ·rw[h];exact hk
 ·rw[h];exact hk
section
variable {P:Program} {Γ:Gh} {w:World} {I:Nat→Prop} {F A:Nat→Prop} {hp:Hp} {sl:Sl} {a:Act}
def ceV (r:AV):Zb := { eff := { val:=r },gone:=[] }
def QO (P:Program) (Γ:Gh) (I:Nat→Prop) (o:Oper) (a:Act) (w:World) (ce:Zb):Prop:=
 ∃ u r,ZeQ P o a w u w∧ce=ceV r∧Rep Γ w I r u
theorem ZQ {v:AV} {ce:Zb} (h:Z7 v=some ce):ce=ceV v:=by cases h;rfl
theorem opt1_some {v:Option AV} {ce:Zb} (h:XN v=some ce):∃ r,v=some r∧ce=ceV r:=by
 obtain⟨r,h1,h2⟩:=Za h;exact⟨r,h1,ZQ h2⟩
theorem Zcs {o:Oper} {x:Operand} {y:Opd} (ho:o.op=.move x∨o.op=.assign x) (hs:V7 Γ w I sl a) (hc:ZA x=some y) {ce:Zb} (hv:Z7 (evO sl y)=some ce):QO P Γ I o a w ce:=by
 refine⟨a.eval x,_,.inl ?_,ZQ hv,hs.ev hc⟩;rcases ho with ho | ho<;>simp[execOp,ho]
theorem ZlN {o:Oper} {x y z:Operand} {x' y' z' : Opd} (ho:o.op=.pick x y z) (hs:V7 Γ w I sl a) (hx:ZA x=some x') (hy:ZA y=some y') (hz:ZA z=some z') {ce:Zb}
  (hv:JD (evO sl y') (evO sl z') (evO sl x')=some ce):QO P Γ I o a w ce:=by
 have h1:=hs.ev hx;unfold JD at hv;split at hv
 ·rename_i t aa;rw[aa] at h1;have h2:=Uq h1;split at hv
  ·rename_i ht;subst ht;exact⟨a.eval y,_,.inl (by simp[execOp,ho,h2,asBool]),ZQ hv,hs.ev hy⟩
  ·rename_i ht;simp at ht;subst ht;exact⟨a.eval z,_,.inl (by simp[execOp,ho,h2,asBool]),ZQ hv,hs.ev hz⟩
 ·cases hv
theorem ZlO {o:Oper} {t:TypeId} {x:Operand} {y:Opd} {g:Bool} (ho:o.op=.load t x) (hs:V7 Γ w I sl a) (hh:Vk Γ w I F A hp) (hg:Ut P t=some g) (hc:ZA x=some y) {ce:Zb}
  (hv:XN (Yo hp g (P.cellsOf t) (evO sl y))=some ce):QO P Γ I o a w ce:=by
 obtain⟨r,h1,h2⟩:=opt1_some hv;obtain⟨u,h3,h4⟩:=Ziu (P:=P) hg hh (hs.ev hc) h1;exact⟨u,r,.inl (by simp[execOp,ho,h3]),h2,h4⟩
theorem ZfM {o:Oper} {x:Operand} {y:Opd} (ho:o.op=.nilCheck x) (hs:V7 Γ w I sl a) (hc:ZA x=some y) {ce:Zb} (hv:Vm (evO sl y)=some ce):QO P Γ I o a w ce:=by
 have h1:=hs.ev hc;unfold Vm at hv;split at hv
 ·rename_i h;rw[h] at h1;obtain⟨b,h2,h3⟩:=h1;exact⟨_,_,.inl (by simp[execOp,ho,h3]),ZQ hv,b,h2,rfl⟩
 ·rename_i h;rw[h] at h1;obtain⟨b,o1,n,c,h2,h3,h4⟩:=h1;exact⟨_,_,.inl (by simp[execOp,ho,h4]),ZQ hv,b,o1,n,c,h2,h3,rfl⟩
 ·rename_i h;rw[h] at h1;obtain⟨b,o',vs,h2,h3⟩:=h1;exact⟨_,_,.inl (by simp[execOp,ho,h2]),ZQ hv,b,o',vs,rfl,h3⟩
 ·rename_i h;rw[h] at h1;obtain⟨us,h2,h3⟩:=h1;exact⟨_,_,.inl (by simp[execOp,ho,h2]),ZQ hv,us,rfl,h3⟩
 ·cases hv
theorem Zdk {op:BinOp} {t:TypeId} {x y:Operand} {u v:Value} (hu:∀ c,u≠.agg c) (hn:u≠.nilIface):(eqGuard op t x y u v).run P w=.ok () w:=by
 unfold eqGuard;cases op<;>simp<;>(cases u<;>simp at hu hn ⊢)
theorem Zho {t:TypeId} (h:P.underlying t=some .bool) (x y:Bool):(binOp .eql t (.bool x) (.bool y)).run P w=.ok (.bool (x==y)) w:=by
 have h1:binOp .eql t (.bool x) (.bool y)=(do let r ← Op.equalIn (9999+1) t (.bool x) (.bool y);pure (.bool r)):=rfl;rw[h1,Sem.run_bind,run_equalIn_bool' w 9999 t x y h];rfl
theorem Zhp {t:TypeId} (h:P.underlying t=some .bool) (x y:Bool):(binOp .neq t (.bool x) (.bool y)).run P w=.ok (.bool (!(x==y))) w:=by
 have h1:binOp .neq t (.bool x) (.bool y)=(do let r ← Op.equalIn (9999+1) t (.bool x) (.bool y);pure (.bool (!r))):=rfl;rw[h1,Sem.run_bind,run_equalIn_bool' w 9999 t x y h];rfl
theorem Zhq {t:TypeId} (h:Zag P t=true):P.underlying t=some .bool:=by
 unfold Zag at h;split at h
 ·assumption
 ·cases h
theorem ZmS {o:Oper} {op:BinOp} {t ab : TypeId} {x y:Operand} {x' y' : Opd} (ho:o.op=.binOp op t x y ab) (hs:V7 Γ w I sl a) (hx:ZA x=some x') (hy:ZA y=some y') {ce:Zb}
  (hv:ZeC op (Zag P t) (evO sl x') (evO sl y')=some ce):QO P Γ I o a w ce:=by
 have h1:=hs.ev hx;have h2:=hs.ev hy;have aa:∀ {d:D} {u:Value},(∀ c,a.eval x≠.agg c)→a.eval x≠.nilIface→(binOp op t (a.eval x) (a.eval y)).run P w=.ok u w→QL w I d u→ce=ceV (.d d)→QO P Γ I o a w ce:=
  fun h3 h4 h5 h6 h7=>⟨_,_,.inl (by simp[execOp,ho,Zdk h3 h4,h5]),h7,QF.2 h6⟩
 unfold ZeC at hv;split at hv
 ·rename_i p q hp' hq;rw[hp'] at h1;rw[hq] at h2;have e1:=Uq h1;have e2:=Uq h2;split at hv
  ·rename_i hb;have hu:=Zhq hb;obtain⟨r,h3,h4⟩:=opt1_some hv;unfold ZfX at h3;split at h3
   ·cases h3;exact aa (by simp[e1]) (by simp[e1]) (by rw[e1,e2];exact Zho hu _ _) (We _) h4
   ·cases h3;exact aa (by simp[e1]) (by simp[e1]) (by rw[e1,e2];exact Zhp hu _ _) (We _) h4
   ·cases h3
  ·cases hv
 ·obtain⟨r,h3,h4⟩:=opt1_some hv;unfold vbin at h3;split at h3
  ·rename_i k p k' q hp' hq;rw[hp'] at h1;rw[hq] at h2;have e1:=V8 h1;have e2:=V8 h2;unfold YR at h3;split at h3
   ·obtain⟨d,h5,h6⟩:=Za h3;cases h6;obtain⟨u,h7,h8⟩:=Zew (P:=P) (w:=w) (I:=I) (k':=k') h5 t;exact aa (by simp[e1]) (by simp[e1]) (by rw[e1,e2];exact h7) h8 h4
   ·obtain⟨d,h5,h6⟩:=Za h3;cases h6;obtain⟨u,h7,h8⟩:=Zew (P:=P) (w:=w) (I:=I) (k':=k') h5 t;exact aa (by simp[e1]) (by simp[e1]) (by rw[e1,e2];exact h7) h8 h4
   ·split at h3
    ·rename_i hk;subst hk;obtain⟨d,h5,h6⟩:=Za h3;cases h6;obtain⟨u,h7,h8⟩:=ZmG (P:=P) (w:=w) (I:=I) h5 t;exact aa (by simp[e1]) (by simp[e1]) (by rw[e1,e2];exact h7) h8 h4
    ·cases h3
  ·rename_i p q hp' hq;rw[hp'] at h1;rw[hq] at h2;obtain⟨s1,e1,rfl⟩:=UK h1;obtain⟨s2,e2,rfl⟩:=UK h2;obtain⟨d,h5,h6⟩:=Za h3;cases h6;obtain⟨u,h7,h8⟩:=ZmH (P:=P) (w:=w) (I:=I) h5 t;exact aa (by simp[e1]) (by simp[e1]) (by rw[e1,e2];exact h7) h8 h4
  ·cases h3
theorem ZnV {o:Oper} {op:UnOp} {t:TypeId} {x:Operand} {x' : Opd} (ho:o.op=.unOp op t x) (hs:V7 Γ w I sl a) (hx:ZA x=some x') {ce:Zb}
  (hv:XN (vun op (evO sl x'))=some ce):QO P Γ I o a w ce:=by
 have h1:=hs.ev hx;obtain⟨r,h3,h4⟩:=opt1_some hv;unfold vun at h3;split at h3
 ·rename_i hq;rw[hq] at h1;have e1:=V8 h1;unfold neg1 at h3;split at h3
  ·cases h3;exact⟨_,_,.inl (by simp[execOp,ho,e1,Op.unary,Op.intArith]),h4,Wl _ _⟩
  ·cases h3
 ·rename_i hq;rw[hq] at h1;have e1:=Uq h1;unfold not1 at h3;split at h3
  ·cases h3;exact⟨_,_,.inl (by simp[execOp,ho,e1,Op.unary]),h4,Zlw _⟩
  ·cases h3
 ·cases h3
theorem ZlP {o:Oper} {s d:TypeId} {x:Operand} {x' : Opd} {c:COp} (ho:o.op=.convert s d x) (hs:V7 Γ w I sl a) (hx:ZA x=some x') (hc:ZkD x' (Vn P s) (Vn P d) (ZlJ P s) (ZlJ P d)=some c)
  {C:Orc} {M:Zf} {base:Nat} {ce:Zb} (hv:vop C M sl hp base c=some ce):QO P Γ I o a w ce:=by
 have h1:=hs.ev hx;unfold ZkD at hc;split at hc
 ·rename_i k k' hk aa;cases hc;simp only[vop,Abs.convI] at hv;split at hv
  ·rename_i hq;rw[hq] at h1;have e1:=V8 h1;exact⟨_,_,.inl (by simp[execOp,ho,e1,convert,run_underlying (Zgg hk),run_underlying (Zgg aa),Conv.intToInt]),ZQ hv,Wl _ _⟩
  ·cases hv
 ·split at hc
  ·rename_i hh;cases hc;simp at hh;simp only[vop,Abs.convS] at hv;split at hv
   ·rename_i hq;rw[hq] at h1;obtain⟨s1,e1,e2⟩:=UK h1;exact⟨_,_,.inl (by simp[execOp,ho,e1,convert,run_underlying (YE hh.1),run_underlying (YE hh.2)]),ZQ hv,Zir e2⟩
   ·cases hv
  ·cases hc
theorem ZlQ {o:Oper} {t:TypeId} {f:Nat} {x:Operand} {x' : Opd} {q:Nat×TypeId} {g:Bool} (ho:o.op=.field t x f) (hs:V7 Γ w I sl a) (hq:UQ P t f=some q) (hg:Ut P q.2=some g) (hx:ZA x=some x')
  {ce:Zb} (hv:XN (ZbG g (P.cellsOf q.2) q.1 (evO sl x'))=some ce):QO P Γ I o a w ce:=by
 obtain⟨r,h3,h4⟩:=opt1_some hv;obtain⟨cs,u,h5,h6,h7⟩:=Zit (P:=P) hg (hs.ev hx) h3;obtain⟨fs,y,h8,h9,aa,ab,ad⟩:=Ju hq;refine⟨u,r,.inl ?_,h4,h7⟩;simp[execOp,ho,Instr.field,run_underlying h8,h9,h5,asAgg,aa,ab,h6]
theorem ZjH {o:Oper} {t:TypeId} {f:Nat} {x:Operand} {x' : Opd} {q:Nat×TypeId} (ho:o.op=.fieldAddr t x f) (hs:V7 Γ w I sl a) (hq:UQ P t f=some q) (hx:ZA x=some x')
  {ce:Zb} (hv:X0 q.1 (evO sl x')=some ce):QO P Γ I o a w ce:=by
 obtain⟨u,r,h1,h2,h3⟩:=Zly (P:=P) hq (hs.ev hx) hv;exact⟨u,r,.inl (by simp[execOp,ho,h1]),h2,h3⟩
theorem ZmT {o:Oper} {i:Nat} {x:Operand} {x' : Opd} (ho:o.op=.extract x i) (hs:V7 Γ w I sl a) (hx:ZA x=some x')
  {ce:Zb} (hv:ZiA i (evO sl x')=some ce):QO P Γ I o a w ce:=by
 have h1:=hs.ev hx;unfold ZiA at hv;split at hv
 ·rename_i vs hq;rw[hq] at h1;obtain⟨us,h2,h3⟩:=h1;obtain⟨r,h4,h5⟩:=opt1_some hv;obtain⟨u,h6,h7⟩:=h3.get i r h4;have aa : us[i]?=some u:=by simpa using h6
  exact⟨u,r,.inl (by simp[execOp,ho,Instr.extract,h2,aa]),h5,h7.rep⟩
 ·cases hv
theorem ZeR {x y:AV} {u v:Value} {ce:Zb} (hx:Rep Γ w I x u) (hy:Rep Γ w I y v) (at_:Array TypeId) (ty:TypeId) :
  (Zdf x y=some ce→∃ z r,(Builtin.min_ at_ ty #[u,v]).run P w=.ok z w∧ce=ceV r∧Rep Γ w I r z) ∧
  (Zdg x y=some ce→∃ z r,(Builtin.max_ at_ ty #[u,v]).run P w=.ok z w∧ce=ceV r∧Rep Γ w I r z):=by
 constructor
 ·intro h;unfold Zdf at h;split at h
  ·split at h
   ·rename_i hk;subst hk;rw[V8 hx,V8 hy];exact⟨_,_,by simp[Builtin.min_,Builtin.min2];rfl,ZQ h,Wl _ _⟩
   ·cases h
  ·cases h
 ·intro h;unfold Zdg at h;split at h
  ·split at h
   ·rename_i hk;subst hk;rw[V8 hx,V8 hy];exact⟨_,_,by simp[Builtin.max_,Builtin.max2];rfl,ZQ h,Wl _ _⟩
   ·cases h
  ·cases h
theorem ZjI {o:Oper} {t:TypeId} {x i:Operand} {x' i' : Opd} {c:COp} (ho:o.op=.index t x i) (hs:V7 Γ w I sl a) (hx:ZA x=some x') (hi:ZA i=some i')
  (hc:Zhk P x' i' (Vn P t) (Za2 P t)=some c) {C:Orc} {M:Zf} {base:Nat} {ce:Zb} (hv:vop C M sl hp base c=some ce):QO P Γ I o a w ce:=by
 have h1:=hs.ev hx;have h2:=hs.ev hi;unfold Zhk at hc;split at hc
 ·rename_i aa;cases hc;simp only[vop] at hv;obtain⟨n,hn,hv⟩:=Za hv;obtain⟨k,e2⟩:=XH hn h2;unfold ZjC at hv;split at hv
  ·rename_i s hq;rw[hq] at h1;obtain⟨s1,e1,rfl⟩:=UK h1;unfold Ziz at hv;split at hv
   ·rename_i h0;obtain⟨b,hb,hv⟩:=Za hv;have ab : s1[n.toNat]?=some b:=by
     have:s1.data[n.toNat]?=some b:=by simpa using hb
     exact this
    exact⟨_,_,.inl (by simp[execOp,ho,e1,e2,Instr.index,asIntOf,run_underlying (YE aa),h0,ab]),ZQ hv,Wl _ _⟩
   ·cases hv
  ·cases hv
 ·obtain⟨q,hq,hc⟩:=Za hc;obtain⟨g,hg,hc⟩:=Za hc;cases hc;simp only[vop] at hv;obtain⟨n,hn,hv⟩:=Za hv;obtain⟨k,e2⟩:=XH hn h2;unfold ZlI at hv;split at hv
  ·rename_i hb;obtain⟨r,h3,h4⟩:=opt1_some hv;obtain⟨cs,u,h5,h6,h7⟩:=Zit (P:=P) hg h1 h3;obtain⟨ii,ad⟩:=Zab hg;exact⟨u,r,.inl (by simp[execOp,ho,h5,e2,Instr.index,asIntOf,run_underlying (Zgh hq),hb.1,hb.2,Qe ad,h6]),h4,h7⟩
  ·cases hv
end
end Go.Abs
