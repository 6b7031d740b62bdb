/- The abstract semantics and the model: operations that turn nothing,all together. Own text. -/
import Derived.Test.YtkdjbefmiiibpaaGreatDoorAbsExec2
set_option linter.unusedVariables false
set_option linter.unusedSimpArgs false
namespace Go.Abs
open Go
def ZmG (P:Program) (o:Oper) (a:Act) (w:World) (u:Value) (w' : World):Prop:=
 (execOp a.eval o).run P w=.ok (.value u) w'∨((execOp a.eval o).run P w=.ok .skip w'∧u=undef)
theorem ZmG.wp {P:Program} {o:Oper} {a:Act} {w w' : World} {u:Value} (h:ZmG P o a w u w') {K:Act→World→Prop} {Q:Exit→Act→World→Prop} (hk:K (a.put o.dst u) w'):o.wp P a w K Q:=by
 unfold Oper.wp
 rcases h with h | ⟨h,rfl⟩
 ·rw[h];exact hk
 ·rw[h];exact hk
section
variable {P:Program} {Γ:Gh} {w:World} {I:Nat→Prop} {F A:Nat→Prop} {hp:Hp} {sl:Sl} {a:Act}
def ceV (r:AV):Zb := { eff := { val:=r },gone:=[] }
def YG (P:Program) (Γ:Gh) (I:Nat→Prop) (o:Oper) (a:Act) (w:World) (ce:Zb):Prop:=
 ∃ u r,ZmG P o a w u w∧ce=ceV r∧Rep Γ w I r u
theorem QG {v:AV} {ce:Zb} (h:QY v=some ce):ce=ceV v:=by cases h;rfl
theorem opt1_some {v:Option AV} {ce:Zb} (h:Wq v=some ce):∃ r,v=some r∧ce=ceV r:=by
 obtain⟨r,h1,h2⟩:=Za h
 exact⟨r,h1,QG h2⟩
theorem Zjf {o:Oper} {x:Operand} {y:Opd} (ho:o.op=.move x∨o.op=.assign x) (hs:Zbx Γ w I sl a) (hc:Z8 x=some y) {ce:Zb} (hv:QY (evO sl y)=some ce):YG P Γ I o a w ce:=by
 refine⟨a.eval x,_,.inl ?_,QG hv,hs.ev hc⟩
 rcases ho with ho | ho<;>simp[execOp,ho]
theorem Zwc {o:Oper} {x y z:Operand} {x' y' z' : Opd} (ho:o.op=.pick x y z) (hs:Zbx Γ w I sl a) (hx:Z8 x=some x') (hy:Z8 y=some y') (hz:Z8 z=some z') {ce:Zb}
  (hv:ZeE (evO sl y') (evO sl z') (evO sl x')=some ce):YG P Γ I o a w ce:=by
 have h1:=hs.ev hx
 unfold ZeE at hv
 split at hv
 ·rename_i t hx'
  rw[hx'] at h1
  have h2:=Zds h1
  split at hv
  ·rename_i ht
   subst ht
   exact⟨a.eval y,_,.inl (by simp[execOp,ho,h2,asBool]),QG hv,hs.ev hy⟩
  ·rename_i ht
   simp at ht
   subst ht
   exact⟨a.eval z,_,.inl (by simp[execOp,ho,h2,asBool]),QG hv,hs.ev hz⟩
 ·cases hv
theorem Zwd {o:Oper} {t:TypeId} {x:Operand} {y:Opd} {g:Bool} (ho:o.op=.load t x) (hs:Zbx Γ w I sl a) (hh:Zao Γ w I F A hp) (hg:ZdB P t=some g) (hc:Z8 x=some y) {ce:Zb}
  (hv:Wq (UP hp g (P.cellsOf t) (evO sl y))=some ce):YG P Γ I o a w ce:=by
 obtain⟨r,h1,h2⟩:=opt1_some hv
 obtain⟨u,h3,h4⟩:=Zsc (P:=P) hg hh (hs.ev hc) h1
 exact⟨u,r,.inl (by simp[execOp,ho,h3]),h2,h4⟩
theorem Zog {o:Oper} {x:Operand} {y:Opd} (ho:o.op=.nilCheck x) (hs:Zbx Γ w I sl a) (hc:Z8 x=some y) {ce:Zb} (hv:JZ (evO sl y)=some ce):YG P Γ I o a w ce:=by
 have h1:=hs.ev hc
 unfold JZ at hv
 split at hv
 ·rename_i h;rw[h] at h1;obtain⟨b,h2,h3⟩:=h1
  exact⟨_,_,.inl (by simp[execOp,ho,h3]),QG hv,b,h2,rfl⟩
 ·rename_i h;rw[h] at h1;obtain⟨b,n,c,h2,h3,h4⟩:=h1
  exact⟨_,_,.inl (by simp[execOp,ho,h4]),QG hv,b,n,c,h2,h3,rfl⟩
 ·rename_i h;rw[h] at h1;obtain⟨b,o',vs,h2,h3⟩:=h1
  exact⟨_,_,.inl (by simp[execOp,ho,h2]),QG hv,b,o',vs,rfl,h3⟩
 ·rename_i h;rw[h] at h1;obtain⟨us,h2,h3⟩:=h1
  exact⟨_,_,.inl (by simp[execOp,ho,h2]),QG hv,us,rfl,h3⟩
 ·cases hv
theorem Zj0 {op:BinOp} {t:TypeId} {x y:Operand} {u v:Value} (hu:∀ c,u≠.agg c) (hn:u≠.nilIface):(eqGuard op t x y u v).run P w=.ok () w:=by
 unfold eqGuard
 cases op<;>simp<;>(cases u<;>simp at hu hn ⊢)
theorem ZqB {t:TypeId} (h:P.underlying t=some .bool) (x y:Bool):(binOp .eql t (.bool x) (.bool y)).run P w=.ok (.bool (x==y)) w:=by
 have h1:binOp .eql t (.bool x) (.bool y)=(do let r ← Op.equalIn (9999+1) t (.bool x) (.bool y);pure (.bool r)):=rfl
 rw[h1,Sem.run_bind,run_equalIn_bool' w 9999 t x y h]
 rfl
theorem ZqC {t:TypeId} (h:P.underlying t=some .bool) (x y:Bool):(binOp .neq t (.bool x) (.bool y)).run P w=.ok (.bool (!(x==y))) w:=by
 have h1:binOp .neq t (.bool x) (.bool y)=(do let r ← Op.equalIn (9999+1) t (.bool x) (.bool y);pure (.bool (!r))):=rfl
 rw[h1,Sem.run_bind,run_equalIn_bool' w 9999 t x y h]
 rfl
theorem ZqD {t:TypeId} (h:ZfZ P t=true):P.underlying t=some .bool:=by
 unfold ZfZ at h;split at h
 ·assumption
 ·cases h
theorem ZxZ {o:Oper} {op:BinOp} {t ty' : TypeId} {x y:Operand} {x' y' : Opd} (ho:o.op=.binOp op t x y ty') (hs:Zbx Γ w I sl a) (hx:Z8 x=some x') (hy:Z8 y=some y') {ce:Zb}
  (hv:ZkE op (ZfZ P t) (evO sl x') (evO sl y')=some ce):YG P Γ I o a w ce:=by
 have h1:=hs.ev hx
 have h2:=hs.ev hy
 have fin:∀ {d:D} {u:Value},(∀ c,a.eval x≠.agg c)→a.eval x≠.nilIface→(binOp op t (a.eval x) (a.eval y)).run P w=.ok u w→XV w I d u→ce=ceV (.d d)→YG P Γ I o a w ce:=
  fun h3 h4 h5 h6 h7=>⟨_,_,.inl (by simp[execOp,ho,Zj0 h3 h4,h5]),h7,QQ.2 h6⟩
 unfold ZkE at hv
 split at hv
 ·rename_i p q hp' hq
  rw[hp'] at h1;rw[hq] at h2
  have e1:=Zds h1
  have e2:=Zds h2
  split at hv
  ·rename_i hb
   have hu:=ZqD hb
   obtain⟨r,h3,h4⟩:=opt1_some hv
   unfold Zoz at h3
   split at h3
   ·cases h3
    exact fin (by simp[e1]) (by simp[e1]) (by rw[e1,e2];exact ZqB hu _ _) (ZbH _) h4
   ·cases h3
    exact fin (by simp[e1]) (by simp[e1]) (by rw[e1,e2];exact ZqC hu _ _) (ZbH _) h4
   ·cases h3
  ·cases hv
 ·obtain⟨r,h3,h4⟩:=opt1_some hv
  unfold vbin at h3
  split at h3
  ·rename_i k p k' q hp' hq
   rw[hp'] at h1;rw[hq] at h2
   have e1:=rep_int h1
   have e2:=rep_int h2
   unfold JT at h3
   split at h3
   ·obtain⟨d,h5,h6⟩:=Za h3;cases h6
    obtain⟨u,h7,h8⟩:=Zmq (P:=P) (w:=w) (I:=I) (k':=k') h5 t
    exact fin (by simp[e1]) (by simp[e1]) (by rw[e1,e2];exact h7) h8 h4
   ·obtain⟨d,h5,h6⟩:=Za h3;cases h6
    obtain⟨u,h7,h8⟩:=Zmq (P:=P) (w:=w) (I:=I) (k':=k') h5 t
    exact fin (by simp[e1]) (by simp[e1]) (by rw[e1,e2];exact h7) h8 h4
   ·split at h3
    ·rename_i hk
     subst hk
     obtain⟨d,h5,h6⟩:=Za h3;cases h6
     obtain⟨u,h7,h8⟩:=ZxS (P:=P) (w:=w) (I:=I) h5 t
     exact fin (by simp[e1]) (by simp[e1]) (by rw[e1,e2];exact h7) h8 h4
    ·cases h3
  ·rename_i p q hp' hq
   rw[hp'] at h1;rw[hq] at h2
   obtain⟨s1,e1,rfl⟩:=Zec h1
   obtain⟨s2,e2,rfl⟩:=Zec h2
   obtain⟨d,h5,h6⟩:=Za h3;cases h6
   obtain⟨u,h7,h8⟩:=ZxT (P:=P) (w:=w) (I:=I) h5 t
   exact fin (by simp[e1]) (by simp[e1]) (by rw[e1,e2];exact h7) h8 h4
  ·cases h3
theorem ZAy {o:Oper} {op:UnOp} {t:TypeId} {x:Operand} {x' : Opd} (ho:o.op=.unOp op t x) (hs:Zbx Γ w I sl a) (hx:Z8 x=some x') {ce:Zb}
  (hv:Wq (vun op (evO sl x'))=some ce):YG P Γ I o a w ce:=by
 have h1:=hs.ev hx
 obtain⟨r,h3,h4⟩:=opt1_some hv
 unfold vun at h3
 split at h3
 ·rename_i hq
  rw[hq] at h1
  have e1:=rep_int h1
  unfold neg1 at h3
  split at h3
  ·cases h3
   exact⟨_,_,.inl (by simp[execOp,ho,e1,Op.unary,Op.intArith]),h4,Zb7 _ _⟩
  ·cases h3
 ·rename_i hq
  rw[hq] at h1
  have e1:=Zds h1
  unfold not1 at h3
  split at h3
  ·cases h3
   exact⟨_,_,.inl (by simp[execOp,ho,e1,Op.unary]),h4,Zv1 _⟩
  ·cases h3
 ·cases h3
theorem Zwe {o:Oper} {s d:TypeId} {x:Operand} {x' : Opd} {c:COp} (ho:o.op=.convert s d x) (hs:Zbx Γ w I sl a) (hx:Z8 x=some x') (hc:ZuS x' (Zar P s) (Zar P d) (Zwb P s) (Zwb P d)=some c)
  {C:Orc} {M:Zo} {base:Nat} {ce:Zb} (hv:vop C M sl hp base c=some ce):YG P Γ I o a w ce:=by
 have h1:=hs.ev hx
 unfold ZuS at hc
 split at hc
 ·rename_i k k' hk hk'
  cases hc
  simp only[vop,Abs.convI] at hv
  split at hv
  ·rename_i hq
   rw[hq] at h1
   have e1:=rep_int h1
   exact⟨_,_,.inl (by simp[execOp,ho,e1,convert,run_underlying (ZoY hk),run_underlying (ZoY hk'),Conv.intToInt]),QG hv,Zb7 _ _⟩
  ·cases hv
 ·split at hc
  ·rename_i hh
   cases hc
   simp at hh
   simp only[vop,Abs.convS] at hv
   split at hv
   ·rename_i hq
    rw[hq] at h1
    obtain⟨s1,e1,e2⟩:=Zec h1
    exact⟨_,_,.inl (by simp[execOp,ho,e1,convert,run_underlying (Jl hh.1),run_underlying (Jl hh.2)]),QG hv,Zr8 e2⟩
   ·cases hv
  ·cases hc
theorem Zwf {o:Oper} {t:TypeId} {f:Nat} {x:Operand} {x' : Opd} {q:Nat×TypeId} {g:Bool} (ho:o.op=.field t x f) (hs:Zbx Γ w I sl a) (hq:Zef P t f=some q) (hg:ZdB P q.2=some g) (hx:Z8 x=some x')
  {ce:Zb} (hv:Wq (Zh7 g (P.cellsOf q.2) q.1 (evO sl x'))=some ce):YG P Γ I o a w ce:=by
 obtain⟨r,h3,h4⟩:=opt1_some hv
 obtain⟨cs,u,h5,h6,h7⟩:=Zsa (P:=P) hg (hs.ev hx) h3
 obtain⟨fs,y,h8,h9,h10,h11,h12⟩:=Zfh hq
 refine⟨u,r,.inl ?_,h4,h7⟩
 simp[execOp,ho,Instr.field,run_underlying h8,h9,h5,asAgg,h10,h11,h6]
theorem ZtV {o:Oper} {t:TypeId} {f:Nat} {x:Operand} {x' : Opd} {q:Nat×TypeId} (ho:o.op=.fieldAddr t x f) (hs:Zbx Γ w I sl a) (hq:Zef P t f=some q) (hx:Z8 x=some x')
  {ce:Zb} (hv:VS q.1 (evO sl x')=some ce):YG P Γ I o a w ce:=by
 obtain⟨u,r,h1,h2,h3⟩:=Zv3 (P:=P) hq (hs.ev hx) hv
 exact⟨u,r,.inl (by simp[execOp,ho,h1]),h2,h3⟩
theorem Zx0 {o:Oper} {i:Nat} {x:Operand} {x' : Opd} (ho:o.op=.extract x i) (hs:Zbx Γ w I sl a) (hx:Z8 x=some x')
  {ce:Zb} (hv:Zqx i (evO sl x')=some ce):YG P Γ I o a w ce:=by
 have h1:=hs.ev hx
 unfold Zqx at hv
 split at hv
 ·rename_i vs hq
  rw[hq] at h1
  obtain⟨us,h2,h3⟩:=h1
  obtain⟨r,h4,h5⟩:=opt1_some hv
  obtain⟨u,h6,h7⟩:=h3.get i r h4
  have h6' : us[i]?=some u:=by simpa using h6
  exact⟨u,r,.inl (by simp[execOp,ho,Instr.extract,h2,h6']),h5,h7.rep⟩
 ·cases hv
theorem ZmH {x y:AV} {u v:Value} {ce:Zb} (hx:Rep Γ w I x u) (hy:Rep Γ w I y v) (at_:Array TypeId) (ty:TypeId) :
  (Zia x y=some ce→∃ z r,(Builtin.min_ at_ ty #[u,v]).run P w=.ok z w∧ce=ceV r∧Rep Γ w I r z) ∧
  (Zib x y=some ce→∃ z r,(Builtin.max_ at_ ty #[u,v]).run P w=.ok z w∧ce=ceV r∧Rep Γ w I r z):=by
 constructor
 ·intro h
  unfold Zia at h
  split at h
  ·split at h
   ·rename_i hk
    subst hk
    rw[rep_int hx,rep_int hy]
    exact⟨_,_,by simp[Builtin.min_,Builtin.min2];rfl,QG h,Zb7 _ _⟩
   ·cases h
  ·cases h
 ·intro h
  unfold Zib at h
  split at h
  ·split at h
   ·rename_i hk
    subst hk
    rw[rep_int hx,rep_int hy]
    exact⟨_,_,by simp[Builtin.max_,Builtin.max2];rfl,QG h,Zb7 _ _⟩
   ·cases h
  ·cases h
theorem ZtW {o:Oper} {t:TypeId} {x i:Operand} {x' i' : Opd} {c:COp} (ho:o.op=.index t x i) (hs:Zbx Γ w I sl a) (hx:Z8 x=some x') (hi:Z8 i=some i')
  (hc:Zqz P x' i' (Zar P t) (Zg8 P t)=some c) {C:Orc} {M:Zo} {base:Nat} {ce:Zb} (hv:vop C M sl hp base c=some ce):YG P Γ I o a w ce:=by
 have h1:=hs.ev hx
 have h2:=hs.ev hi
 unfold Zqz at hc
 split at hc
 ·rename_i hst
  cases hc
  simp only[vop] at hv
  obtain⟨n,hn,hv⟩:=Za hv
  obtain⟨k,e2⟩:=UZ hn h2
  unfold Zsg at hv
  split at hv
  ·rename_i s hq
   rw[hq] at h1
   obtain⟨s1,e1,rfl⟩:=Zec h1
   unfold Zo4 at hv
   split at hv
   ·rename_i h0
    obtain⟨b,hb,hv⟩:=Za hv
    have hb' : s1[n.toNat]?=some b:=by
     have:s1.data[n.toNat]?=some b:=by simpa using hb
     exact this
    exact⟨_,_,.inl (by simp[execOp,ho,e1,e2,Instr.index,asIntOf,run_underlying (Jl hst),h0,hb']),QG hv,Zb7 _ _⟩
   ·cases hv
  ·cases hv
 ·obtain⟨q,hq,hc⟩:=Za hc
  obtain⟨g,hg,hc⟩:=Za hc
  cases hc
  simp only[vop] at hv
  obtain⟨n,hn,hv⟩:=Za hv
  obtain⟨k,e2⟩:=UZ hn h2
  unfold ZtO at hv
  split at hv
  ·rename_i hb
   obtain⟨r,h3,h4⟩:=opt1_some hv
   obtain⟨cs,u,h5,h6,h7⟩:=Zsa (P:=P) hg h1 h3
   obtain⟨ii,hii⟩:=ZfV hg
   exact⟨u,r,.inl (by simp[execOp,ho,h5,e2,Instr.index,asIntOf,run_underlying (ZoZ hq),hb.1,hb.2,Xe hii,h6]),h4,h7⟩
  ·cases hv
end
end Go.Abs
