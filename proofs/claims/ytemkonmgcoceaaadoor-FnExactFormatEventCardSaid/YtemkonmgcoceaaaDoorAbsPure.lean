/- The abstract semantics and the model: operations that turn nothing,all together. Own text. -/
import Derived.Test.YtemkonmgcoceaaaDoorAbsExec2
set_option linter.unusedVariables false
set_option linter.unusedSimpArgs false
namespace Go.Abs
open Go
def Zg3 (P:Program) (o:Oper) (a:Act) (w:World) (u:Value) (w' : World):Prop:=
 (execOp a.eval o).run P w=.ok (.value u) w'∨((execOp a.eval o).run P w=.ok .skip w'∧u=undef)
theorem Zg3.wp {P:Program} {o:Oper} {a:Act} {w w' : World} {u:Value} (h:Zg3 P o a w u w') {K:Act→World→Prop} {Q:Exit→Act→World→Prop} (hk:K (a.put o.dst u) w'):o.wp P a w K Q:=by
 unfold Oper.wp
 rcases h with h | ⟨h,rfl⟩
 ·rw[h];exact hk
 ·rw[h];exact hk
section
variable {P:Program} {Γ:Gh} {w:World} {I:Nat→Prop} {F A:Nat→Prop} {hp:Hp} {sl:Sl} {a:Act}
def ceV (r:AV):Zb := { eff := { val:=r },gone:=[] }
def Xn (P:Program) (Γ:Gh) (I:Nat→Prop) (o:Oper) (a:Act) (w:World) (ce:Zb):Prop:=
 ∃ u r,Zg3 P o a w u w∧ce=ceV r∧Rep Γ w I r u
theorem Z8 {v:AV} {ce:Zb} (h:Ql v=some ce):ce=ceV v:=by cases h;rfl
theorem opt1_some {v:Option AV} {ce:Zb} (h:Yf v=some ce):∃ r,v=some r∧ce=ceV r:=by
 obtain⟨r,h1,h2⟩:=Za h
 exact⟨r,h1,Z8 h2⟩
theorem Zex {o:Oper} {x:Operand} {y:Opd} (ho:o.op=.move x∨o.op=.assign x) (hs:Uc Γ w I sl a) (hc:ZL x=some y) {ce:Zb} (hv:Ql (evO sl y)=some ce):Xn P Γ I o a w ce:=by
 refine⟨a.eval x,_,.inl ?_,Z8 hv,hs.ev hc⟩
 rcases ho with ho | ho<;>simp[execOp,ho]
theorem Zok {o:Oper} {x y z:Operand} {x' y' z' : Opd} (ho:o.op=.pick x y z) (hs:Uc Γ w I sl a) (hx:ZL x=some x') (hy:ZL y=some y') (hz:ZL z=some z') {ce:Zb}
  (hv:Za2 (evO sl y') (evO sl z') (evO sl x')=some ce):Xn P Γ I o a w ce:=by
 have h1:=hs.ev hx
 unfold Za2 at hv
 split at hv
 ·rename_i t hx'
  rw[hx'] at h1
  have h2:=J0 h1
  split at hv
  ·rename_i ht
   subst ht
   exact⟨a.eval y,_,.inl (by simp[execOp,ho,h2,asBool]),Z8 hv,hs.ev hy⟩
  ·rename_i ht
   simp at ht
   subst ht
   exact⟨a.eval z,_,.inl (by simp[execOp,ho,h2,asBool]),Z8 hv,hs.ev hz⟩
 ·cases hv
theorem Zol {o:Oper} {t:TypeId} {x:Operand} {y:Opd} {g:Bool} (ho:o.op=.load t x) (hs:Uc Γ w I sl a) (hh:Wl Γ w I F A hp) (hg:J9 P t=some g) (hc:ZL x=some y) {ce:Zb}
  (hv:Yf (Y9 hp g (P.cellsOf t) (evO sl y))=some ce):Xn P Γ I o a w ce:=by
 obtain⟨r,h1,h2⟩:=opt1_some hv
 obtain⟨u,h3,h4⟩:=ZkU (P:=P) hg hh (hs.ev hc) h1
 exact⟨u,r,.inl (by simp[execOp,ho,h3]),h2,h4⟩
theorem ZhW {o:Oper} {x:Operand} {y:Opd} (ho:o.op=.nilCheck x) (hs:Uc Γ w I sl a) (hc:ZL x=some y) {ce:Zb} (hv:VY (evO sl y)=some ce):Xn P Γ I o a w ce:=by
 have h1:=hs.ev hc
 unfold VY at hv
 split at hv
 ·rename_i h;rw[h] at h1;obtain⟨b,h2,h3⟩:=h1
  exact⟨_,_,.inl (by simp[execOp,ho,h3]),Z8 hv,b,h2,rfl⟩
 ·rename_i h;rw[h] at h1;obtain⟨b,n,c,h2,h3,h4⟩:=h1
  exact⟨_,_,.inl (by simp[execOp,ho,h4]),Z8 hv,b,n,c,h2,h3,rfl⟩
 ·rename_i h;rw[h] at h1;obtain⟨b,o',vs,h2,h3⟩:=h1
  exact⟨_,_,.inl (by simp[execOp,ho,h2]),Z8 hv,b,o',vs,rfl,h3⟩
 ·rename_i h;rw[h] at h1;obtain⟨us,h2,h3⟩:=h1
  exact⟨_,_,.inl (by simp[execOp,ho,h2]),Z8 hv,us,rfl,h3⟩
 ·cases hv
theorem Zfm {op:BinOp} {t:TypeId} {x y:Operand} {u v:Value} (hu:∀ c,u≠.agg c) (hn:u≠.nilIface):(eqGuard op t x y u v).run P w=.ok () w:=by
 unfold eqGuard
 cases op<;>simp<;>(cases u<;>simp at hu hn ⊢)
theorem ZjH {t:TypeId} (h:P.underlying t=some .bool) (x y:Bool):(binOp .eql t (.bool x) (.bool y)).run P w=.ok (.bool (x==y)) w:=by
 have h1:binOp .eql t (.bool x) (.bool y)=(do let r ← Op.equalIn (9999+1) t (.bool x) (.bool y);pure (.bool r)):=rfl
 rw[h1,Sem.run_bind,run_equalIn_bool' w 9999 t x y h]
 rfl
theorem ZjI {t:TypeId} (h:P.underlying t=some .bool) (x y:Bool):(binOp .neq t (.bool x) (.bool y)).run P w=.ok (.bool (!(x==y))) w:=by
 have h1:binOp .neq t (.bool x) (.bool y)=(do let r ← Op.equalIn (9999+1) t (.bool x) (.bool y);pure (.bool (!r))):=rfl
 rw[h1,Sem.run_bind,run_equalIn_bool' w 9999 t x y h]
 rfl
theorem ZjJ {t:TypeId} (h:ZbY P t=true):P.underlying t=some .bool:=by
 unfold ZbY at h;split at h
 ·assumption
 ·cases h
theorem Zpw {o:Oper} {op:BinOp} {t ty' : TypeId} {x y:Operand} {x' y' : Opd} (ho:o.op=.binOp op t x y ty') (hs:Uc Γ w I sl a) (hx:ZL x=some x') (hy:ZL y=some y') {ce:Zb}
  (hv:ZfB op (ZbY P t) (evO sl x') (evO sl y')=some ce):Xn P Γ I o a w ce:=by
 have h1:=hs.ev hx
 have h2:=hs.ev hy
 have fin:∀ {d:D} {u:Value},(∀ c,a.eval x≠.agg c)→a.eval x≠.nilIface→(binOp op t (a.eval x) (a.eval y)).run P w=.ok u w→QD w I d u→ce=ceV (.d d)→Xn P Γ I o a w ce:=
  fun h3 h4 h5 h6 h7=>⟨_,_,.inl (by simp[execOp,ho,Zfm h3 h4,h5]),h7,Z9.2 h6⟩
 unfold ZfB at hv
 split at hv
 ·rename_i p q hp' hq
  rw[hp'] at h1;rw[hq] at h2
  have e1:=J0 h1
  have e2:=J0 h2
  split at hv
  ·rename_i hb
   have hu:=ZjJ hb
   obtain⟨r,h3,h4⟩:=opt1_some hv
   unfold Zh9 at h3
   split at h3
   ·cases h3
    exact fin (by simp[e1]) (by simp[e1]) (by rw[e1,e2];exact ZjH hu _ _) (Up _) h4
   ·cases h3
    exact fin (by simp[e1]) (by simp[e1]) (by rw[e1,e2];exact ZjI hu _ _) (Up _) h4
   ·cases h3
  ·cases hv
 ·obtain⟨r,h3,h4⟩:=opt1_some hv
  unfold vbin at h3
  split at h3
  ·rename_i k p k' q hp' hq
   rw[hp'] at h1;rw[hq] at h2
   have e1:=Ud h1
   have e2:=Ud h2
   unfold Wh at h3
   split at h3
   ·obtain⟨d,h5,h6⟩:=Za h3;cases h6
    obtain⟨u,h7,h8⟩:=ZgP (P:=P) (w:=w) (I:=I) (k':=k') h5 t
    exact fin (by simp[e1]) (by simp[e1]) (by rw[e1,e2];exact h7) h8 h4
   ·obtain⟨d,h5,h6⟩:=Za h3;cases h6
    obtain⟨u,h7,h8⟩:=ZgP (P:=P) (w:=w) (I:=I) (k':=k') h5 t
    exact fin (by simp[e1]) (by simp[e1]) (by rw[e1,e2];exact h7) h8 h4
   ·split at h3
    ·rename_i hk
     subst hk
     obtain⟨d,h5,h6⟩:=Za h3;cases h6
     obtain⟨u,h7,h8⟩:=Zpm (P:=P) (w:=w) (I:=I) h5 t
     exact fin (by simp[e1]) (by simp[e1]) (by rw[e1,e2];exact h7) h8 h4
    ·cases h3
  ·rename_i p q hp' hq
   rw[hp'] at h1;rw[hq] at h2
   obtain⟨s1,e1,rfl⟩:=Zay h1
   obtain⟨s2,e2,rfl⟩:=Zay h2
   obtain⟨d,h5,h6⟩:=Za h3;cases h6
   obtain⟨u,h7,h8⟩:=Zpn (P:=P) (w:=w) (I:=I) h5 t
   exact fin (by simp[e1]) (by simp[e1]) (by rw[e1,e2];exact h7) h8 h4
  ·cases h3
theorem ZqE {o:Oper} {op:UnOp} {t:TypeId} {x:Operand} {x' : Opd} (ho:o.op=.unOp op t x) (hs:Uc Γ w I sl a) (hx:ZL x=some x') {ce:Zb}
  (hv:Yf (vun op (evO sl x'))=some ce):Xn P Γ I o a w ce:=by
 have h1:=hs.ev hx
 obtain⟨r,h3,h4⟩:=opt1_some hv
 unfold vun at h3
 split at h3
 ·rename_i hq
  rw[hq] at h1
  have e1:=Ud h1
  unfold neg1 at h3
  split at h3
  ·cases h3
   exact⟨_,_,.inl (by simp[execOp,ho,e1,Op.unary,Op.intArith]),h4,UK _ _⟩
  ·cases h3
 ·rename_i hq
  rw[hq] at h1
  have e1:=J0 h1
  unfold not1 at h3
  split at h3
  ·cases h3
   exact⟨_,_,.inl (by simp[execOp,ho,e1,Op.unary]),h4,Zn9 _⟩
  ·cases h3
 ·cases h3
theorem Zom {o:Oper} {s d:TypeId} {x:Operand} {x' : Opd} {c:COp} (ho:o.op=.convert s d x) (hs:Uc Γ w I sl a) (hx:ZL x=some x') (hc:Zne x' (Wo P s) (Wo P d) (Zoh P s) (Zoh P d)=some c)
  {C:Orc} {M:Zj} {base:Nat} {ce:Zb} (hv:vop C M sl hp base c=some ce):Xn P Γ I o a w ce:=by
 have h1:=hs.ev hx
 unfold Zne at hc
 split at hc
 ·rename_i k k' hk hk'
  cases hc
  simp only[vop,Abs.convI] at hv
  split at hv
  ·rename_i hq
   rw[hq] at h1
   have e1:=Ud h1
   exact⟨_,_,.inl (by simp[execOp,ho,e1,convert,run_underlying (Ziw hk),run_underlying (Ziw hk'),Conv.intToInt]),Z8 hv,UK _ _⟩
  ·cases hv
 ·split at hc
  ·rename_i hh
   cases hc
   simp at hh
   simp only[vop,Abs.convS] at hv
   split at hv
   ·rename_i hq
    rw[hq] at h1
    obtain⟨s1,e1,e2⟩:=Zay h1
    exact⟨_,_,.inl (by simp[execOp,ho,e1,convert,run_underlying (Vx hh.1),run_underlying (Vx hh.2)]),Z8 hv,ZkQ e2⟩
   ·cases hv
  ·cases hc
theorem Zon {o:Oper} {t:TypeId} {f:Nat} {x:Operand} {x' : Opd} {q:Nat×TypeId} {g:Bool} (ho:o.op=.field t x f) (hs:Uc Γ w I sl a) (hq:ZaB P t f=some q) (hg:J9 P q.2=some g) (hx:ZL x=some x')
  {ce:Zb} (hv:Yf (ZdF g (P.cellsOf q.2) q.1 (evO sl x'))=some ce):Xn P Γ I o a w ce:=by
 obtain⟨r,h3,h4⟩:=opt1_some hv
 obtain⟨cs,u,h5,h6,h7⟩:=ZkS (P:=P) hg (hs.ev hx) h3
 obtain⟨fs,y,h8,h9,h10,h11,h12⟩:=Zbp hq
 refine⟨u,r,.inl ?_,h4,h7⟩
 simp[execOp,ho,Instr.field,run_underlying h8,h9,h5,asAgg,h10,h11,h6]
theorem Zmr {o:Oper} {t:TypeId} {f:Nat} {x:Operand} {x' : Opd} {q:Nat×TypeId} (ho:o.op=.fieldAddr t x f) (hs:Uc Γ w I sl a) (hq:ZaB P t f=some q) (hx:ZL x=some x')
  {ce:Zb} (hv:X9 q.1 (evO sl x')=some ce):Xn P Γ I o a w ce:=by
 obtain⟨u,r,h1,h2,h3⟩:=Zob (P:=P) hq (hs.ev hx) hv
 exact⟨u,r,.inl (by simp[execOp,ho,h1]),h2,h3⟩
theorem Zpx {o:Oper} {i:Nat} {x:Operand} {x' : Opd} (ho:o.op=.extract x i) (hs:Uc Γ w I sl a) (hx:ZL x=some x')
  {ce:Zb} (hv:ZjB i (evO sl x')=some ce):Xn P Γ I o a w ce:=by
 have h1:=hs.ev hx
 unfold ZjB at hv
 split at hv
 ·rename_i vs hq
  rw[hq] at h1
  obtain⟨us,h2,h3⟩:=h1
  obtain⟨r,h4,h5⟩:=opt1_some hv
  obtain⟨u,h6,h7⟩:=h3.get i r h4
  have h6' : us[i]?=some u:=by simpa using h6
  exact⟨u,r,.inl (by simp[execOp,ho,Instr.extract,h2,h6']),h5,h7.rep⟩
 ·cases hv
theorem Zg4 {x y:AV} {u v:Value} {ce:Zb} (hx:Rep Γ w I x u) (hy:Rep Γ w I y v) (at_:Array TypeId) (ty:TypeId) :
  (ZdI x y=some ce→∃ z r,(Builtin.min_ at_ ty #[u,v]).run P w=.ok z w∧ce=ceV r∧Rep Γ w I r z) ∧
  (ZdJ x y=some ce→∃ z r,(Builtin.max_ at_ ty #[u,v]).run P w=.ok z w∧ce=ceV r∧Rep Γ w I r z):=by
 constructor
 ·intro h
  unfold ZdI at h
  split at h
  ·split at h
   ·rename_i hk
    subst hk
    rw[Ud hx,Ud hy]
    exact⟨_,_,by simp[Builtin.min_,Builtin.min2];rfl,Z8 h,UK _ _⟩
   ·cases h
  ·cases h
 ·intro h
  unfold ZdJ at h
  split at h
  ·split at h
   ·rename_i hk
    subst hk
    rw[Ud hx,Ud hy]
    exact⟨_,_,by simp[Builtin.max_,Builtin.max2];rfl,Z8 h,UK _ _⟩
   ·cases h
  ·cases h
theorem Zms {o:Oper} {t:TypeId} {x i:Operand} {x' i' : Opd} {c:COp} (ho:o.op=.index t x i) (hs:Uc Γ w I sl a) (hx:ZL x=some x') (hi:ZL i=some i')
  (hc:ZjD P x' i' (Wo P t) (ZcT P t)=some c) {C:Orc} {M:Zj} {base:Nat} {ce:Zb} (hv:vop C M sl hp base c=some ce):Xn P Γ I o a w ce:=by
 have h1:=hs.ev hx
 have h2:=hs.ev hi
 unfold ZjD at hc
 split at hc
 ·rename_i hst
  cases hc
  simp only[vop] at hv
  obtain⟨n,hn,hv⟩:=Za hv
  obtain⟨k,e2⟩:=Vf hn h2
  unfold Zk0 at hv
  split at hv
  ·rename_i s hq
   rw[hq] at h1
   obtain⟨s1,e1,rfl⟩:=Zay h1
   unfold ZiC at hv
   split at hv
   ·rename_i h0
    obtain⟨b,hb,hv⟩:=Za hv
    have hb' : s1[n.toNat]?=some b:=by
     have:s1.data[n.toNat]?=some b:=by simpa using hb
     exact this
    exact⟨_,_,.inl (by simp[execOp,ho,e1,e2,Instr.index,asIntOf,run_underlying (Vx hst),h0,hb']),Z8 hv,UK _ _⟩
   ·cases hv
  ·cases hv
 ·obtain⟨q,hq,hc⟩:=Za hc
  obtain⟨g,hg,hc⟩:=Za hc
  cases hc
  simp only[vop] at hv
  obtain⟨n,hn,hv⟩:=Za hv
  obtain⟨k,e2⟩:=Vf hn h2
  unfold Zmm at hv
  split at hv
  ·rename_i hb
   obtain⟨r,h3,h4⟩:=opt1_some hv
   obtain⟨cs,u,h5,h6,h7⟩:=ZkS (P:=P) hg h1 h3
   obtain⟨ii,hii⟩:=ZbU hg
   exact⟨u,r,.inl (by simp[execOp,ho,h5,e2,Instr.index,asIntOf,run_underlying (Zix hq),hb.1,hb.2,Qz hii,h6]),h4,h7⟩
  ·cases hv
end
end Go.Abs
