/- Own text. -/
import Derived.Test.YtnachaiejoflhaaAbsExec2
set_option linter.unusedVariables false
set_option linter.unusedSimpArgs false
namespace Go.Abs
open Go
def Zgl (P:Program) (o:Oper) (a:Act) (w:World) (u:Value) (w' : World):Prop:=
 (execOp a.eval o).run P w=.ok (.value u) w'∨((execOp a.eval o).run P w=.ok .skip w'∧u=undef)
theorem Zgl.wp {P:Program} {o:Oper} {a:Act} {w w' : World} {u:Value} (h:Zgl P o a w u w') {K:Act→World→Prop} {Q:Exit→Act→World→Prop} (hk:K (a.put o.dst u) w'):o.wp P a w K Q:=by
 unfold Oper.wp;rcases h with h | ⟨h,rfl⟩
 ·rw[h];exact hk
 ·rw[h];exact hk
section
variable {P:Program} {Γ:Gh} {w:World} {I:Nat→Prop} {F A:Nat→Prop} {hp:Hp} {sl:Sl} {a:Act}
def ceV (r:AV):Zb := { eff := { val:=r },gone:=[] }
def Q3 (P:Program) (Γ:Gh) (I:Nat→Prop) (o:Oper) (a:Act) (w:World) (ce:Zb):Prop:=
 ∃ u r,Zgl P o a w u w∧ce=ceV r∧Rep Γ w I r u
theorem ZV {v:AV} {ce:Zb} (h:Qf v=some ce):ce=ceV v:=by cases h;rfl
theorem opt1_some {v:Option AV} {ce:Zb} (h:XT v=some ce):∃ r,v=some r∧ce=ceV r:=by
 obtain⟨r,h1,h2⟩:=Za h;exact⟨r,h1,ZV h2⟩
theorem ZdL {o:Oper} {x:Operand} {y:Opd} (ho:o.op=.move x∨o.op=.assign x) (hs:WC Γ w I sl a) (hc:ZC x=some y) {ce:Zb} (hv:Qf (evO sl y)=some ce):Q3 P Γ I o a w ce:=by
 refine⟨a.eval x,_,.inl ?_,ZV hv,hs.ev hc⟩;rcases ho with ho | ho<;>simp[execOp,ho]
theorem Zom {o:Oper} {x y z:Operand} {x' y' z' : Opd} (ho:o.op=.pick x y z) (hs:WC Γ w I sl a) (hx:ZC x=some x') (hy:ZC y=some y') (hz:ZC z=some z') {ce:Zb}
  (hv:ZaF (evO sl y') (evO sl z') (evO sl x')=some ce):Q3 P Γ I o a w ce:=by
 have h1:=hs.ev hx;unfold ZaF at hv;split at hv
 ·rename_i t aa;rw[aa] at h1;have h2:=U9 h1;split at hv
  ·rename_i ht;subst ht;exact⟨a.eval y,_,.inl (by simp[execOp,ho,h2,asBool]),ZV hv,hs.ev hy⟩
  ·rename_i ht;simp at ht;subst ht;exact⟨a.eval z,_,.inl (by simp[execOp,ho,h2,asBool]),ZV hv,hs.ev hz⟩
 ·cases hv
theorem Zon {o:Oper} {t:TypeId} {x:Operand} {y:Opd} {g:Bool} (ho:o.op=.load t x) (hs:WC Γ w I sl a) (hh:VN Γ w I F A hp) (hg:Jb P t=some g) (hc:ZC x=some y) {ce:Zb}
  (hv:XT (YI hp g (P.cellsOf t) (evO sl y))=some ce):Q3 P Γ I o a w ce:=by
 obtain⟨r,h1,h2⟩:=opt1_some hv;obtain⟨u,h3,h4⟩:=ZkN (P:=P) hg hh (hs.ev hc) h1;exact⟨u,r,.inl (by simp[execOp,ho,h3]),h2,h4⟩
theorem Zhv {o:Oper} {x:Operand} {y:Opd} (ho:o.op=.nilCheck x) (hs:WC Γ w I sl a) (hc:ZC x=some y) {ce:Zb} (hv:VQ (evO sl y)=some ce):Q3 P Γ I o a w ce:=by
 have h1:=hs.ev hc;unfold VQ at hv;split at hv
 ·rename_i h;rw[h] at h1;obtain⟨b,h2,h3⟩:=h1;exact⟨_,_,.inl (by simp[execOp,ho,h3]),ZV hv,b,h2,rfl⟩
 ·rename_i h;rw[h] at h1;obtain⟨b,n,c,h2,h3,h4⟩:=h1;exact⟨_,_,.inl (by simp[execOp,ho,h4]),ZV hv,b,n,c,h2,h3,rfl⟩
 ·rename_i h;rw[h] at h1;obtain⟨b,o',vs,h2,h3⟩:=h1;exact⟨_,_,.inl (by simp[execOp,ho,h2]),ZV hv,b,o',vs,rfl,h3⟩
 ·rename_i h;rw[h] at h1;obtain⟨us,h2,h3⟩:=h1;exact⟨_,_,.inl (by simp[execOp,ho,h2]),ZV hv,us,rfl,h3⟩
 ·cases hv
theorem ZeE {op:BinOp} {t:TypeId} {x y:Operand} {u v:Value} (hu:∀ c,u≠.agg c) (hn:u≠.nilIface):(eqGuard op t x y u v).run P w=.ok () w:=by
 unfold eqGuard;cases op<;>simp<;>(cases u<;>simp at hu hn ⊢)
theorem ZjB {t:TypeId} (h:P.underlying t=some .bool) (x y:Bool):(binOp .eql t (.bool x) (.bool y)).run P w=.ok (.bool (x==y)) w:=by
 have h1:binOp .eql t (.bool x) (.bool y)=(do let r ← Op.equalIn (9999+1) t (.bool x) (.bool y);pure (.bool r)):=rfl;rw[h1,Sem.run_bind,run_equalIn_bool' w 9999 t x y h];rfl
theorem ZjC {t:TypeId} (h:P.underlying t=some .bool) (x y:Bool):(binOp .neq t (.bool x) (.bool y)).run P w=.ok (.bool (!(x==y))) w:=by
 have h1:binOp .neq t (.bool x) (.bool y)=(do let r ← Op.equalIn (9999+1) t (.bool x) (.bool y);pure (.bool (!r))):=rfl;rw[h1,Sem.run_bind,run_equalIn_bool' w 9999 t x y h];rfl
theorem ZjD {t:TypeId} (h:Zbj P t=true):P.underlying t=some .bool:=by
 unfold Zbj at h;split at h
 ·assumption
 ·cases h
theorem Zpt {o:Oper} {op:BinOp} {t ab : TypeId} {x y:Operand} {x' y' : Opd} (ho:o.op=.binOp op t x y ab) (hs:WC Γ w I sl a) (hx:ZC x=some x') (hy:ZC y=some y') {ce:Zb}
  (hv:ZeR op (Zbj P t) (evO sl x') (evO sl y')=some ce):Q3 P Γ I o a w ce:=by
 have h1:=hs.ev hx;have h2:=hs.ev hy;have aa:∀ {d:D} {u:Value},(∀ c,a.eval x≠.agg c)→a.eval x≠.nilIface→(binOp op t (a.eval x) (a.eval y)).run P w=.ok u w→QB w I d u→ce=ceV (.d d)→Q3 P Γ I o a w ce:=
  fun h3 h4 h5 h6 h7=>⟨_,_,.inl (by simp[execOp,ho,ZeE h3 h4,h5]),h7,QG.2 h6⟩
 unfold ZeR at hv;split at hv
 ·rename_i p q hp' hq;rw[hp'] at h1;rw[hq] at h2;have e1:=U9 h1;have e2:=U9 h2;split at hv
  ·rename_i hb;have hu:=ZjD hb;obtain⟨r,h3,h4⟩:=opt1_some hv;unfold Zh1 at h3;split at h3
   ·cases h3;exact aa (by simp[e1]) (by simp[e1]) (by rw[e1,e2];exact ZjB hu _ _) (WO _) h4
   ·cases h3;exact aa (by simp[e1]) (by simp[e1]) (by rw[e1,e2];exact ZjC hu _ _) (WO _) h4
   ·cases h3
  ·cases hv
 ·obtain⟨r,h3,h4⟩:=opt1_some hv;unfold vbin at h3;split at h3
  ·rename_i k p k' q hp' hq;rw[hp'] at h1;rw[hq] at h2;have e1:=WD h1;have e2:=WD h2;unfold VK at h3;split at h3
   ·obtain⟨d,h5,h6⟩:=Za h3;cases h6;obtain⟨u,h7,h8⟩:=Zf5 (P:=P) (w:=w) (I:=I) (k':=k') h5 t;exact aa (by simp[e1]) (by simp[e1]) (by rw[e1,e2];exact h7) h8 h4
   ·obtain⟨d,h5,h6⟩:=Za h3;cases h6;obtain⟨u,h7,h8⟩:=Zf5 (P:=P) (w:=w) (I:=I) (k':=k') h5 t;exact aa (by simp[e1]) (by simp[e1]) (by rw[e1,e2];exact h7) h8 h4
   ·split at h3
    ·rename_i hk;subst hk;obtain⟨d,h5,h6⟩:=Za h3;cases h6;obtain⟨u,h7,h8⟩:=Zpj (P:=P) (w:=w) (I:=I) h5 t;exact aa (by simp[e1]) (by simp[e1]) (by rw[e1,e2];exact h7) h8 h4
    ·cases h3
  ·rename_i p q hp' hq;rw[hp'] at h1;rw[hq] at h2;obtain⟨s1,e1,rfl⟩:=JB h1;obtain⟨s2,e2,rfl⟩:=JB h2;obtain⟨d,h5,h6⟩:=Za h3;cases h6;obtain⟨u,h7,h8⟩:=Zpk (P:=P) (w:=w) (I:=I) h5 t;exact aa (by simp[e1]) (by simp[e1]) (by rw[e1,e2];exact h7) h8 h4
  ·cases h3
theorem ZqU {o:Oper} {op:UnOp} {t:TypeId} {x:Operand} {x' : Opd} (ho:o.op=.unOp op t x) (hs:WC Γ w I sl a) (hx:ZC x=some x') {ce:Zb}
  (hv:XT (vun op (evO sl x'))=some ce):Q3 P Γ I o a w ce:=by
 have h1:=hs.ev hx;obtain⟨r,h3,h4⟩:=opt1_some hv;unfold vun at h3;split at h3
 ·rename_i hq;rw[hq] at h1;have e1:=WD h1;unfold neg1 at h3;split at h3
  ·cases h3;exact⟨_,_,.inl (by simp[execOp,ho,e1,Op.unary,Op.intArith]),h4,WW _ _⟩
  ·cases h3
 ·rename_i hq;rw[hq] at h1;have e1:=U9 h1;unfold not1 at h3;split at h3
  ·cases h3;exact⟨_,_,.inl (by simp[execOp,ho,e1,Op.unary]),h4,Zn7 _⟩
  ·cases h3
 ·cases h3
theorem Zoo {o:Oper} {s d:TypeId} {x:Operand} {x' : Opd} {c:COp} (ho:o.op=.convert s d x) (hs:WC Γ w I sl a) (hx:ZC x=some x') (hc:Zni x' (VR P s) (VR P d) (Zoi P s) (Zoi P d)=some c)
  {C:Orc} {M:Zf} {base:Nat} {ce:Zb} (hv:vop C M sl hp base c=some ce):Q3 P Γ I o a w ce:=by
 have h1:=hs.ev hx;unfold Zni at hc;split at hc
 ·rename_i k k' hk aa;cases hc;simp only[vop,Abs.convI] at hv;split at hv
  ·rename_i hq;rw[hq] at h1;have e1:=WD h1;exact⟨_,_,.inl (by simp[execOp,ho,e1,convert,run_underlying (Zik hk),run_underlying (Zik aa),Conv.intToInt]),ZV hv,WW _ _⟩
  ·cases hv
 ·split at hc
  ·rename_i hh;cases hc;simp at hh;simp only[vop,Abs.convS] at hv;split at hv
   ·rename_i hq;rw[hq] at h1;obtain⟨s1,e1,e2⟩:=JB h1;exact⟨_,_,.inl (by simp[execOp,ho,e1,convert,run_underlying (Y2 hh.1),run_underlying (Y2 hh.2)]),ZV hv,ZkK e2⟩
   ·cases hv
  ·cases hc
theorem Zop {o:Oper} {t:TypeId} {f:Nat} {x:Operand} {x' : Opd} {q:Nat×TypeId} {g:Bool} (ho:o.op=.field t x f) (hs:WC Γ w I sl a) (hq:JI P t f=some q) (hg:Jb P q.2=some g) (hx:ZC x=some x')
  {ce:Zb} (hv:XT (ZcT g (P.cellsOf q.2) q.1 (evO sl x'))=some ce):Q3 P Γ I o a w ce:=by
 obtain⟨r,h3,h4⟩:=opt1_some hv;obtain⟨cs,u,h5,h6,h7⟩:=ZkM (P:=P) hg (hs.ev hx) h3;obtain⟨fs,y,h8,h9,aa,ab,ad⟩:=Zaw hq;refine⟨u,r,.inl ?_,h4,h7⟩;simp[execOp,ho,Instr.field,run_underlying h8,h9,h5,asAgg,aa,ab,h6]
theorem Zmh {o:Oper} {t:TypeId} {f:Nat} {x:Operand} {x' : Opd} {q:Nat×TypeId} (ho:o.op=.fieldAddr t x f) (hs:WC Γ w I sl a) (hq:JI P t f=some q) (hx:ZC x=some x')
  {ce:Zb} (hv:Ye q.1 (evO sl x')=some ce):Q3 P Γ I o a w ce:=by
 obtain⟨u,r,h1,h2,h3⟩:=Zn9 (P:=P) hq (hs.ev hx) hv;exact⟨u,r,.inl (by simp[execOp,ho,h1]),h2,h3⟩
theorem Zpu {o:Oper} {i:Nat} {x:Operand} {x' : Opd} (ho:o.op=.extract x i) (hs:WC Γ w I sl a) (hx:ZC x=some x')
  {ce:Zb} (hv:ZkV i (evO sl x')=some ce):Q3 P Γ I o a w ce:=by
 have h1:=hs.ev hx;unfold ZkV at hv;split at hv
 ·rename_i vs hq;rw[hq] at h1;obtain⟨us,h2,h3⟩:=h1;obtain⟨r,h4,h5⟩:=opt1_some hv;obtain⟨u,h6,h7⟩:=h3.get i r h4;have aa : us[i]?=some u:=by simpa using h6
  exact⟨u,r,.inl (by simp[execOp,ho,Instr.extract,h2,aa]),h5,h7.rep⟩
 ·cases hv
theorem Zgm {x y:AV} {u v:Value} {ce:Zb} (hx:Rep Γ w I x u) (hy:Rep Γ w I y v) (at_:Array TypeId) (ty:TypeId) :
  (Zez x y=some ce→∃ z r,(Builtin.min_ at_ ty #[u,v]).run P w=.ok z w∧ce=ceV r∧Rep Γ w I r z) ∧
  (ZeA x y=some ce→∃ z r,(Builtin.max_ at_ ty #[u,v]).run P w=.ok z w∧ce=ceV r∧Rep Γ w I r z):=by
 constructor
 ·intro h;unfold Zez at h;split at h
  ·split at h
   ·rename_i hk;subst hk;rw[WD hx,WD hy];exact⟨_,_,by simp[Builtin.min_,Builtin.min2];rfl,ZV h,WW _ _⟩
   ·cases h
  ·cases h
 ·intro h;unfold ZeA at h;split at h
  ·split at h
   ·rename_i hk;subst hk;rw[WD hx,WD hy];exact⟨_,_,by simp[Builtin.max_,Builtin.max2];rfl,ZV h,WW _ _⟩
   ·cases h
  ·cases h
theorem Zmi {o:Oper} {t:TypeId} {x i:Operand} {x' i' : Opd} {c:COp} (ho:o.op=.index t x i) (hs:WC Γ w I sl a) (hx:ZC x=some x') (hi:ZC i=some i')
  (hc:Zjy P x' i' (VR P t) (Zb9 P t)=some c) {C:Orc} {M:Zf} {base:Nat} {ce:Zb} (hv:vop C M sl hp base c=some ce):Q3 P Γ I o a w ce:=by
 have h1:=hs.ev hx;have h2:=hs.ev hi;unfold Zjy at hc;split at hc
 ·rename_i aa;cases hc;simp only[vop] at hv;obtain⟨n,hn,hv⟩:=Za hv;obtain⟨k,e2⟩:=XY hn h2;unfold Zme at hv;split at hv
  ·rename_i s hq;rw[hq] at h1;obtain⟨s1,e1,rfl⟩:=JB h1;unfold ZkU at hv;split at hv
   ·rename_i h0;obtain⟨b,hb,hv⟩:=Za hv;have ab : s1[n.toNat]?=some b:=by
     have:s1.data[n.toNat]?=some b:=by simpa using hb
     exact this
    exact⟨_,_,.inl (by simp[execOp,ho,e1,e2,Instr.index,asIntOf,run_underlying (Y2 aa),h0,ab]),ZV hv,WW _ _⟩
   ·cases hv
  ·cases hv
 ·obtain⟨q,hq,hc⟩:=Za hc;obtain⟨g,hg,hc⟩:=Za hc;cases hc;simp only[vop] at hv;obtain⟨n,hn,hv⟩:=Za hv;obtain⟨k,e2⟩:=XY hn h2;unfold Zoh at hv;split at hv
  ·rename_i hb;obtain⟨r,h3,h4⟩:=opt1_some hv;obtain⟨cs,u,h5,h6,h7⟩:=ZkM (P:=P) hg h1 h3;obtain⟨ii,ad⟩:=Zbe hg;exact⟨u,r,.inl (by simp[execOp,ho,h5,e2,Instr.index,asIntOf,run_underlying (Zil hq),hb.1,hb.2,Qm ad,h6]),h4,h7⟩
  ·cases hv
end
end Go.Abs
