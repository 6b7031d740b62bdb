/- Own text. -/
import Derived.Test.YtnachaiejoflhaaAbsExec2
set_option linter.unusedVariables false
set_option linter.unusedSimpArgs false
namespace Go.Abs
open Go
def Zht (P:Program) (o:Oper) (a:Act) (w:World) (u:Value) (w' : World):Prop:=
 (execOp a.eval o).run P w=.ok (.value u) w'∨((execOp a.eval o).run P w=.ok .skip w'∧u=undef)
theorem Zht.wp {P:Program} {o:Oper} {a:Act} {w w' : World} {u:Value} (h:Zht P o a w u w') {K:Act→World→Prop} {Q:Exit→Act→World→Prop} (hk:K (a.put o.dst u) w'):o.wp P a w K Q:=by
 unfold Oper.wp;rcases h with h | ⟨h,rfl⟩
 ·rw[h];exact hk
 ·rw[h];exact hk
section
variable {P:Program} {Γ:Gh} {w:World} {I:Nat→Prop} {F A:Nat→Prop} {hp:Hp} {sl:Sl} {a:Act}
def ceV (r:AV):Zb := { eff := { val:=r },gone:=[] }
def Q6 (P:Program) (Γ:Gh) (I:Nat→Prop) (o:Oper) (a:Act) (w:World) (ce:Zb):Prop:=
 ∃ u r,Zht P o a w u w∧ce=ceV r∧Rep Γ w I r u
theorem Z2 {v:AV} {ce:Zb} (h:Qs v=some ce):ce=ceV v:=by cases h;rfl
theorem opt1_some {v:Option AV} {ce:Zb} (h:X9 v=some ce):∃ r,v=some r∧ce=ceV r:=by
 obtain⟨r,h1,h2⟩:=Za h;exact⟨r,h1,Z2 h2⟩
theorem ZeW {o:Oper} {x:Operand} {y:Opd} (ho:o.op=.move x∨o.op=.assign x) (hs:Ue Γ w I sl a) (hc:ZJ x=some y) {ce:Zb} (hv:Qs (evO sl y)=some ce):Q6 P Γ I o a w ce:=by
 refine⟨a.eval x,_,.inl ?_,Z2 hv,hs.ev hc⟩;rcases ho with ho | ho<;>simp[execOp,ho]
theorem ZpC {o:Oper} {x y z:Operand} {x' y' z' : Opd} (ho:o.op=.pick x y z) (hs:Ue Γ w I sl a) (hx:ZJ x=some x') (hy:ZJ y=some y') (hz:ZJ z=some z') {ce:Zb}
  (hv:ZbG (evO sl y') (evO sl z') (evO sl x')=some ce):Q6 P Γ I o a w ce:=by
 have h1:=hs.ev hx;unfold ZbG at hv;split at hv
 ·rename_i t aa;rw[aa] at h1;have h2:=JZ h1;split at hv
  ·rename_i ht;subst ht;exact⟨a.eval y,_,.inl (by simp[execOp,ho,h2,asBool]),Z2 hv,hs.ev hy⟩
  ·rename_i ht;simp at ht;subst ht;exact⟨a.eval z,_,.inl (by simp[execOp,ho,h2,asBool]),Z2 hv,hs.ev hz⟩
 ·cases hv
theorem ZpD {o:Oper} {t:TypeId} {x:Operand} {y:Opd} {g:Bool} (ho:o.op=.load t x) (hs:Ue Γ w I sl a) (hh:Wo Γ w I F A hp) (hg:J2 P t=some g) (hc:ZJ x=some y) {ce:Zb}
  (hv:X9 (Y4 hp g (P.cellsOf t) (evO sl y))=some ce):Q6 P Γ I o a w ce:=by
 obtain⟨r,h1,h2⟩:=opt1_some hv;obtain⟨u,h3,h4⟩:=ZlT (P:=P) hg hh (hs.ev hc) h1;exact⟨u,r,.inl (by simp[execOp,ho,h3]),h2,h4⟩
theorem Ziv {o:Oper} {x:Operand} {y:Opd} (ho:o.op=.nilCheck x) (hs:Ue Γ w I sl a) (hc:ZJ x=some y) {ce:Zb} (hv:Wq (evO sl y)=some ce):Q6 P Γ I o a w ce:=by
 have h1:=hs.ev hc;unfold Wq at hv;split at hv
 ·rename_i h;rw[h] at h1;obtain⟨b,h2,h3⟩:=h1;exact⟨_,_,.inl (by simp[execOp,ho,h3]),Z2 hv,b,h2,rfl⟩
 ·rename_i h;rw[h] at h1;obtain⟨b,n,c,h2,h3,h4⟩:=h1;exact⟨_,_,.inl (by simp[execOp,ho,h4]),Z2 hv,b,n,c,h2,h3,rfl⟩
 ·rename_i h;rw[h] at h1;obtain⟨b,o',vs,h2,h3⟩:=h1;exact⟨_,_,.inl (by simp[execOp,ho,h2]),Z2 hv,b,o',vs,rfl,h3⟩
 ·rename_i h;rw[h] at h1;obtain⟨us,h2,h3⟩:=h1;exact⟨_,_,.inl (by simp[execOp,ho,h2]),Z2 hv,us,rfl,h3⟩
 ·cases hv
theorem ZfP {op:BinOp} {t:TypeId} {x y:Operand} {u v:Value} (hu:∀ c,u≠.agg c) (hn:u≠.nilIface):(eqGuard op t x y u v).run P w=.ok () w:=by
 unfold eqGuard;cases op<;>simp<;>(cases u<;>simp at hu hn ⊢)
theorem ZkG {t:TypeId} (h:P.underlying t=some .bool) (x y:Bool):(binOp .eql t (.bool x) (.bool y)).run P w=.ok (.bool (x==y)) w:=by
 have h1:binOp .eql t (.bool x) (.bool y)=(do let r ← Op.equalIn (9999+1) t (.bool x) (.bool y);pure (.bool r)):=rfl;rw[h1,Sem.run_bind,run_equalIn_bool' w 9999 t x y h];rfl
theorem ZkH {t:TypeId} (h:P.underlying t=some .bool) (x y:Bool):(binOp .neq t (.bool x) (.bool y)).run P w=.ok (.bool (!(x==y))) w:=by
 have h1:binOp .neq t (.bool x) (.bool y)=(do let r ← Op.equalIn (9999+1) t (.bool x) (.bool y);pure (.bool (!r))):=rfl;rw[h1,Sem.run_bind,run_equalIn_bool' w 9999 t x y h];rfl
theorem ZkI {t:TypeId} (h:Zct P t=true):P.underlying t=some .bool:=by
 unfold Zct at h;split at h
 ·assumption
 ·cases h
theorem ZqB {o:Oper} {op:BinOp} {t ab : TypeId} {x y:Operand} {x' y' : Opd} (ho:o.op=.binOp op t x y ab) (hs:Ue Γ w I sl a) (hx:ZJ x=some x') (hy:ZJ y=some y') {ce:Zb}
  (hv:Zhk op (Zct P t) (evO sl x') (evO sl y')=some ce):Q6 P Γ I o a w ce:=by
 have h1:=hs.ev hx;have h2:=hs.ev hy;have aa:∀ {d:D} {u:Value},(∀ c,a.eval x≠.agg c)→a.eval x≠.nilIface→(binOp op t (a.eval x) (a.eval y)).run P w=.ok u w→QF w I d u→ce=ceV (.d d)→Q6 P Γ I o a w ce:=
  fun h3 h4 h5 h6 h7=>⟨_,_,.inl (by simp[execOp,ho,ZfP h3 h4,h5]),h7,QM.2 h6⟩
 unfold Zhk at hv;split at hv
 ·rename_i p q hp' hq;rw[hp'] at h1;rw[hq] at h2;have e1:=JZ h1;have e2:=JZ h2;split at hv
  ·rename_i hb;have hu:=ZkI hb;obtain⟨r,h3,h4⟩:=opt1_some hv;unfold Zje at h3;split at h3
   ·cases h3;exact aa (by simp[e1]) (by simp[e1]) (by rw[e1,e2];exact ZkG hu _ _) (Up _) h4
   ·cases h3;exact aa (by simp[e1]) (by simp[e1]) (by rw[e1,e2];exact ZkH hu _ _) (Up _) h4
   ·cases h3
  ·cases hv
 ·obtain⟨r,h3,h4⟩:=opt1_some hv;unfold vbin at h3;split at h3
  ·rename_i k p k' q hp' hq;rw[hp'] at h1;rw[hq] at h2;have e1:=Uf h1;have e2:=Uf h2;unfold Wl at h3;split at h3
   ·obtain⟨d,h5,h6⟩:=Za h3;cases h6;obtain⟨u,h7,h8⟩:=Zhf (P:=P) (w:=w) (I:=I) (k':=k') h5 t;exact aa (by simp[e1]) (by simp[e1]) (by rw[e1,e2];exact h7) h8 h4
   ·obtain⟨d,h5,h6⟩:=Za h3;cases h6;obtain⟨u,h7,h8⟩:=Zhf (P:=P) (w:=w) (I:=I) (k':=k') h5 t;exact aa (by simp[e1]) (by simp[e1]) (by rw[e1,e2];exact h7) h8 h4
   ·split at h3
    ·rename_i hk;subst hk;obtain⟨d,h5,h6⟩:=Za h3;cases h6;obtain⟨u,h7,h8⟩:=Zqv (P:=P) (w:=w) (I:=I) h5 t;exact aa (by simp[e1]) (by simp[e1]) (by rw[e1,e2];exact h7) h8 h4
    ·cases h3
  ·rename_i p q hp' hq;rw[hp'] at h1;rw[hq] at h2;obtain⟨s1,e1,rfl⟩:=Zaq h1;obtain⟨s2,e2,rfl⟩:=Zaq h2;obtain⟨d,h5,h6⟩:=Za h3;cases h6;obtain⟨u,h7,h8⟩:=Zqw (P:=P) (w:=w) (I:=I) h5 t;exact aa (by simp[e1]) (by simp[e1]) (by rw[e1,e2];exact h7) h8 h4
  ·cases h3
theorem Zsf {o:Oper} {op:UnOp} {t:TypeId} {x:Operand} {x' : Opd} (ho:o.op=.unOp op t x) (hs:Ue Γ w I sl a) (hx:ZJ x=some x') {ce:Zb}
  (hv:X9 (vun op (evO sl x'))=some ce):Q6 P Γ I o a w ce:=by
 have h1:=hs.ev hx;obtain⟨r,h3,h4⟩:=opt1_some hv;unfold vun at h3;split at h3
 ·rename_i hq;rw[hq] at h1;have e1:=Uf h1;unfold neg1 at h3;split at h3
  ·cases h3;exact⟨_,_,.inl (by simp[execOp,ho,e1,Op.unary,Op.intArith]),h4,Ux _ _⟩
  ·cases h3
 ·rename_i hq;rw[hq] at h1;have e1:=JZ h1;unfold not1 at h3;split at h3
  ·cases h3;exact⟨_,_,.inl (by simp[execOp,ho,e1,Op.unary]),h4,Zpo _⟩
  ·cases h3
 ·cases h3
theorem ZpE {o:Oper} {s d:TypeId} {x:Operand} {x' : Opd} {c:COp} (ho:o.op=.convert s d x) (hs:Ue Γ w I sl a) (hx:ZJ x=some x') (hc:ZoA x' (Wr P s) (Wr P d) (Zpz P s) (Zpz P d)=some c)
  {C:Orc} {M:Zh} {base:Nat} {ce:Zb} (hv:vop C M sl hp base c=some ce):Q6 P Γ I o a w ce:=by
 have h1:=hs.ev hx;unfold ZoA at hc;split at hc
 ·rename_i k k' hk aa;cases hc;simp only[vop,Abs.convI] at hv;split at hv
  ·rename_i hq;rw[hq] at h1;have e1:=Uf h1;exact⟨_,_,.inl (by simp[execOp,ho,e1,convert,run_underlying (Zjx hk),run_underlying (Zjx aa),Conv.intToInt]),Z2 hv,Ux _ _⟩
  ·cases hv
 ·split at hc
  ·rename_i hh;cases hc;simp at hh;simp only[vop,Abs.convS] at hv;split at hv
   ·rename_i hq;rw[hq] at h1;obtain⟨s1,e1,e2⟩:=Zaq h1;exact⟨_,_,.inl (by simp[execOp,ho,e1,convert,run_underlying (Vs hh.1),run_underlying (Vs hh.2)]),Z2 hv,ZlQ e2⟩
   ·cases hv
  ·cases hc
theorem ZpF {o:Oper} {t:TypeId} {f:Nat} {x:Operand} {x' : Opd} {q:Nat×TypeId} {g:Bool} (ho:o.op=.field t x f) (hs:Ue Γ w I sl a) (hq:Zax P t f=some q) (hg:J2 P q.2=some g) (hx:ZJ x=some x')
  {ce:Zb} (hv:X9 (Zd5 g (P.cellsOf q.2) q.1 (evO sl x'))=some ce):Q6 P Γ I o a w ce:=by
 obtain⟨r,h3,h4⟩:=opt1_some hv;obtain⟨cs,u,h5,h6,h7⟩:=ZlS (P:=P) hg (hs.ev hx) h3;obtain⟨fs,y,h8,h9,aa,ab,ad⟩:=Zbv hq;refine⟨u,r,.inl ?_,h4,h7⟩;simp[execOp,ho,Instr.field,run_underlying h8,h9,h5,asAgg,aa,ab,h6]
theorem ZnD {o:Oper} {t:TypeId} {f:Nat} {x:Operand} {x' : Opd} {q:Nat×TypeId} (ho:o.op=.fieldAddr t x f) (hs:Ue Γ w I sl a) (hq:Zax P t f=some q) (hx:ZJ x=some x')
  {ce:Zb} (hv:Yu q.1 (evO sl x')=some ce):Q6 P Γ I o a w ce:=by
 obtain⟨u,r,h1,h2,h3⟩:=Zpq (P:=P) hq (hs.ev hx) hv;exact⟨u,r,.inl (by simp[execOp,ho,h1]),h2,h3⟩
theorem ZqC {o:Oper} {i:Nat} {x:Operand} {x' : Opd} (ho:o.op=.extract x i) (hs:Ue Γ w I sl a) (hx:ZJ x=some x')
  {ce:Zb} (hv:ZlZ i (evO sl x')=some ce):Q6 P Γ I o a w ce:=by
 have h1:=hs.ev hx;unfold ZlZ at hv;split at hv
 ·rename_i vs hq;rw[hq] at h1;obtain⟨us,h2,h3⟩:=h1;obtain⟨r,h4,h5⟩:=opt1_some hv;obtain⟨u,h6,h7⟩:=h3.get i r h4;have aa : us[i]?=some u:=by simpa using h6
  exact⟨u,r,.inl (by simp[execOp,ho,Instr.extract,h2,aa]),h5,h7.rep⟩
 ·cases hv
theorem Zhu {x y:AV} {u v:Value} {ce:Zb} (hx:Rep Γ w I x u) (hy:Rep Γ w I y v) (at_:Array TypeId) (ty:TypeId) :
  (ZfL x y=some ce→∃ z r,(Builtin.min_ at_ ty #[u,v]).run P w=.ok z w∧ce=ceV r∧Rep Γ w I r z) ∧
  (ZfM x y=some ce→∃ z r,(Builtin.max_ at_ ty #[u,v]).run P w=.ok z w∧ce=ceV r∧Rep Γ w I r z):=by
 constructor
 ·intro h;unfold ZfL at h;split at h
  ·split at h
   ·rename_i hk;subst hk;rw[Uf hx,Uf hy];exact⟨_,_,by simp[Builtin.min_,Builtin.min2];rfl,Z2 h,Ux _ _⟩
   ·cases h
  ·cases h
 ·intro h;unfold ZfM at h;split at h
  ·split at h
   ·rename_i hk;subst hk;rw[Uf hx,Uf hy];exact⟨_,_,by simp[Builtin.max_,Builtin.max2];rfl,Z2 h,Ux _ _⟩
   ·cases h
  ·cases h
theorem ZnE {o:Oper} {t:TypeId} {x i:Operand} {x' i' : Opd} {c:COp} (ho:o.op=.index t x i) (hs:Ue Γ w I sl a) (hx:ZJ x=some x') (hi:ZJ i=some i')
  (hc:ZkE P x' i' (Wr P t) (Zdg P t)=some c) {C:Orc} {M:Zh} {base:Nat} {ce:Zb} (hv:vop C M sl hp base c=some ce):Q6 P Γ I o a w ce:=by
 have h1:=hs.ev hx;have h2:=hs.ev hi;unfold ZkE at hc;split at hc
 ·rename_i aa;cases hc;simp only[vop] at hv;obtain⟨n,hn,hv⟩:=Za hv;obtain⟨k,e2⟩:=Yd hn h2;unfold Znx at hv;split at hv
  ·rename_i s hq;rw[hq] at h1;obtain⟨s1,e1,rfl⟩:=Zaq h1;unfold ZlY at hv;split at hv
   ·rename_i h0;obtain⟨b,hb,hv⟩:=Za hv;have ab : s1[n.toNat]?=some b:=by
     have:s1.data[n.toNat]?=some b:=by simpa using hb
     exact this
    exact⟨_,_,.inl (by simp[execOp,ho,e1,e2,Instr.index,asIntOf,run_underlying (Vs aa),h0,ab]),Z2 hv,Ux _ _⟩
   ·cases hv
  ·cases hv
 ·obtain⟨q,hq,hc⟩:=Za hc;obtain⟨g,hg,hc⟩:=Za hc;cases hc;simp only[vop] at hv;obtain⟨n,hn,hv⟩:=Za hv;obtain⟨k,e2⟩:=Yd hn h2;unfold Zpy at hv;split at hv
  ·rename_i hb;obtain⟨r,h3,h4⟩:=opt1_some hv;obtain⟨cs,u,h5,h6,h7⟩:=ZlS (P:=P) hg h1 h3;obtain⟨ii,ad⟩:=Zco hg;exact⟨u,r,.inl (by simp[execOp,ho,h5,e2,Instr.index,asIntOf,run_underlying (Zjy hq),hb.1,hb.2,Qx ad,h6]),h4,h7⟩
  ·cases hv
end
end Go.Abs
