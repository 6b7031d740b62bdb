/- The abstract semantics and the model: operations that turn nothing,all together. Own text. -/
import Derived.Test.YtpobhkoombldlaaGreatAbsExec2
set_option linter.unusedVariables false
set_option linter.unusedSimpArgs false
namespace Go.Abs
open Go
def Zqd (P:Program) (o:Oper) (a:Act) (w:World) (u:Value) (w' : World):Prop:=
 (execOp a.eval o).run P w=.ok (.value u) w'∨((execOp a.eval o).run P w=.ok .skip w'∧u=undef)
theorem Zqd.wp {P:Program} {o:Oper} {a:Act} {w w' : World} {u:Value} (h:Zqd P o a w u w') {K:Act→World→Prop} {Q:Exit→Act→World→Prop} (hk:K (a.put o.dst u) w'):o.wp P a w K Q:=by
 unfold Oper.wp
 rcases h with h | ⟨h,rfl⟩
 ·rw[h];exact hk
 ·rw[h];exact hk
section
variable {P:Program} {Γ:Gh} {w:World} {I:Nat→Prop} {F A:Nat→Prop} {hp:Hp} {sl:Sl} {a:Act}
def ceV (r:AV):Zf := { eff := { val:=r },gone:=[] }
def Y1 (P:Program) (Γ:Gh) (I:Nat→Prop) (o:Oper) (a:Act) (w:World) (ce:Zf):Prop:=
 ∃ u r,Zqd P o a w u w∧ce=ceV r∧Rep Γ w I r u
theorem QH {v:AV} {ce:Zf} (h:Qm v=some ce):ce=ceV v:=by cases h;rfl
theorem opt1_some {v:Option AV} {ce:Zf} (h:UA v=some ce):∃ r,v=some r∧ce=ceV r:=by
 obtain⟨r,h1,h2⟩:=Za h
 exact⟨r,h1,QH h2⟩
theorem Zns {o:Oper} {x:Operand} {y:Opd} (ho:o.op=.move x∨o.op=.assign x) (hs:Zfl Γ w I sl a) (hc:Z9 x=some y) {ce:Zf} (hv:Qm (evO sl y)=some ce):Y1 P Γ I o a w ce:=by
 refine⟨a.eval x,_,.inl ?_,QH hv,hs.ev hc⟩
 rcases ho with ho | ho<;>simp[execOp,ho]
theorem Zzd {o:Oper} {x y z:Operand} {x' y' z' : Opd} (ho:o.op=.pick x y z) (hs:Zfl Γ w I sl a) (hx:Z9 x=some x') (hy:Z9 y=some y') (hz:Z9 z=some z') {ce:Zf}
  (hv:ZiY (evO sl y') (evO sl z') (evO sl x')=some ce):Y1 P Γ I o a w ce:=by
 have h1:=hs.ev hx
 unfold ZiY at hv
 split at hv
 ·rename_i t hx'
  rw[hx'] at h1
  have h2:=ZhK h1
  split at hv
  ·rename_i ht
   subst ht
   exact⟨a.eval y,_,.inl (by simp[execOp,ho,h2,asBool]),QH hv,hs.ev hy⟩
  ·rename_i ht
   simp at ht
   subst ht
   exact⟨a.eval z,_,.inl (by simp[execOp,ho,h2,asBool]),QH hv,hs.ev hz⟩
 ·cases hv
theorem Zze {o:Oper} {t:TypeId} {x:Operand} {y:Opd} {g:Bool} (ho:o.op=.load t x) (hs:Zfl Γ w I sl a) (hh:Zdg Γ w I F A hp) (hg:ZhS P t=some g) (hc:Z9 x=some y) {ce:Zf}
  (hv:UA (Zaf hp g (P.cellsOf t) (evO sl y))=some ce):Y1 P Γ I o a w ce:=by
 obtain⟨r,h1,h2⟩:=opt1_some hv
 obtain⟨u,h3,h4⟩:=ZvA (P:=P) hg hh (hs.ev hc) h1
 exact⟨u,r,.inl (by simp[execOp,ho,h3]),h2,h4⟩
theorem ZrR {o:Oper} {x:Operand} {y:Opd} (ho:o.op=.nilCheck x) (hs:Zfl Γ w I sl a) (hc:Z9 x=some y) {ce:Zf} (hv:ZbR (evO sl y)=some ce):Y1 P Γ I o a w ce:=by
 have h1:=hs.ev hc
 unfold ZbR at hv
 split at hv
 ·rename_i h;rw[h] at h1;obtain⟨b,h2,h3⟩:=h1
  exact⟨_,_,.inl (by simp[execOp,ho,h3]),QH hv,b,h2,rfl⟩
 ·rename_i h;rw[h] at h1;obtain⟨b,n,c,h2,h3,h4⟩:=h1
  exact⟨_,_,.inl (by simp[execOp,ho,h4]),QH hv,b,n,c,h2,h3,rfl⟩
 ·rename_i h;rw[h] at h1;obtain⟨b,o',vs,h2,h3⟩:=h1
  exact⟨_,_,.inl (by simp[execOp,ho,h2]),QH hv,b,o',vs,rfl,h3⟩
 ·rename_i h;rw[h] at h1;obtain⟨us,h2,h3⟩:=h1
  exact⟨_,_,.inl (by simp[execOp,ho,h2]),QH hv,us,rfl,h3⟩
 ·cases hv
theorem Zol {op:BinOp} {t:TypeId} {x y:Operand} {u v:Value} (hu:∀ c,u≠.agg c) (hn:u≠.nilIface):(eqGuard op t x y u v).run P w=.ok () w:=by
 unfold eqGuard
 cases op<;>simp<;>(cases u<;>simp at hu hn ⊢)
theorem Zt8 {t:TypeId} (h:P.underlying t=some .bool) (x y:Bool):(binOp .eql t (.bool x) (.bool y)).run P w=.ok (.bool (x==y)) w:=by
 have h1:binOp .eql t (.bool x) (.bool y)=(do let r ← Op.equalIn (9999+1) t (.bool x) (.bool y);pure (.bool r)):=rfl
 rw[h1,Sem.run_bind,run_equalIn_bool' w 9999 t x y h]
 rfl
theorem Zt9 {t:TypeId} (h:P.underlying t=some .bool) (x y:Bool):(binOp .neq t (.bool x) (.bool y)).run P w=.ok (.bool (!(x==y))) w:=by
 have h1:binOp .neq t (.bool x) (.bool y)=(do let r ← Op.equalIn (9999+1) t (.bool x) (.bool y);pure (.bool (!r))):=rfl
 rw[h1,Sem.run_bind,run_equalIn_bool' w 9999 t x y h]
 rfl
theorem Zua {t:TypeId} (h:Zks P t=true):P.underlying t=some .bool:=by
 unfold Zks at h;split at h
 ·assumption
 ·cases h
theorem ZAh {o:Oper} {op:BinOp} {t ty' : TypeId} {x y:Operand} {x' y' : Opd} (ho:o.op=.binOp op t x y ty') (hs:Zfl Γ w I sl a) (hx:Z9 x=some x') (hy:Z9 y=some y') {ce:Zf}
  (hv:Zfn op (Zks P t) (evO sl x') (evO sl y')=some ce):Y1 P Γ I o a w ce:=by
 have h1:=hs.ev hx
 have h2:=hs.ev hy
 have fin:∀ {d:D} {u:Value},(∀ c,a.eval x≠.agg c)→a.eval x≠.nilIface→(binOp op t (a.eval x) (a.eval y)).run P w=.ok u w→YL w I d u→ce=ceV (.d d)→Y1 P Γ I o a w ce:=
  fun h3 h4 h5 h6 h7=>⟨_,_,.inl (by simp[execOp,ho,Zol h3 h4,h5]),h7,YK.2 h6⟩
 unfold Zfn at hv
 split at hv
 ·rename_i p q hp' hq
  rw[hp'] at h1;rw[hq] at h2
  have e1:=ZhK h1
  have e2:=ZhK h2
  split at hv
  ·rename_i hb
   have hu:=Zua hb
   obtain⟨r,h3,h4⟩:=opt1_some hv
   unfold ZsB at h3
   split at h3
   ·cases h3
    exact fin (by simp[e1]) (by simp[e1]) (by rw[e1,e2];exact Zt8 hu _ _) (Zf0 _) h4
   ·cases h3
    exact fin (by simp[e1]) (by simp[e1]) (by rw[e1,e2];exact Zt9 hu _ _) (Zf0 _) h4
   ·cases h3
  ·cases hv
 ·obtain⟨r,h3,h4⟩:=opt1_some hv
  unfold vbin at h3
  split at h3
  ·rename_i k p k' q hp' hq
   rw[hp'] at h1;rw[hq] at h2
   have e1:=rep_int h1
   have e2:=rep_int h2
   unfold ZbK at h3
   split at h3
   ·obtain⟨d,h5,h6⟩:=Za h3;cases h6
    obtain⟨u,h7,h8⟩:=ZpX (P:=P) (w:=w) (I:=I) (k':=k') h5 t
    exact fin (by simp[e1]) (by simp[e1]) (by rw[e1,e2];exact h7) h8 h4
   ·obtain⟨d,h5,h6⟩:=Za h3;cases h6
    obtain⟨u,h7,h8⟩:=ZpX (P:=P) (w:=w) (I:=I) (k':=k') h5 t
    exact fin (by simp[e1]) (by simp[e1]) (by rw[e1,e2];exact h7) h8 h4
   ·split at h3
    ·rename_i hk
     subst hk
     obtain⟨d,h5,h6⟩:=Za h3;cases h6
     obtain⟨u,h7,h8⟩:=ZAc (P:=P) (w:=w) (I:=I) h5 t
     exact fin (by simp[e1]) (by simp[e1]) (by rw[e1,e2];exact h7) h8 h4
    ·cases h3
  ·rename_i p q hp' hq
   rw[hp'] at h1;rw[hq] at h2
   obtain⟨s1,e1,rfl⟩:=Zio h1
   obtain⟨s2,e2,rfl⟩:=Zio h2
   obtain⟨d,h5,h6⟩:=Za h3;cases h6
   obtain⟨u,h7,h8⟩:=ZAd (P:=P) (w:=w) (I:=I) h5 t
   exact fin (by simp[e1]) (by simp[e1]) (by rw[e1,e2];exact h7) h8 h4
  ·cases h3
theorem ZCj {o:Oper} {op:UnOp} {t:TypeId} {x:Operand} {x' : Opd} (ho:o.op=.unOp op t x) (hs:Zfl Γ w I sl a) (hx:Z9 x=some x') {ce:Zf}
  (hv:UA (vun op (evO sl x'))=some ce):Y1 P Γ I o a w ce:=by
 have h1:=hs.ev hx
 obtain⟨r,h3,h4⟩:=opt1_some hv
 unfold vun at h3
 split at h3
 ·rename_i hq
  rw[hq] at h1
  have e1:=rep_int h1
  unfold neg1 at h3
  split at h3
  ·cases h3
   exact⟨_,_,.inl (by simp[execOp,ho,e1,Op.unary,Op.intArith]),h4,Zgc _ _⟩
  ·cases h3
 ·rename_i hq
  rw[hq] at h1
  have e1:=ZhK h1
  unfold not1 at h3
  split at h3
  ·cases h3
   exact⟨_,_,.inl (by simp[execOp,ho,e1,Op.unary]),h4,Zy4 _⟩
  ·cases h3
 ·cases h3
theorem Zzf {o:Oper} {s d:TypeId} {x:Operand} {x' : Opd} {c:COp} (ho:o.op=.convert s d x) (hs:Zfl Γ w I sl a) (hx:Z9 x=some x') (hc:Zyl x' (Zdj P s) (Zdj P d) (Zzb P s) (Zzb P d)=some c)
  {C:Orc} {M:Zu} {base:Nat} {ce:Zf} (hv:vop C M sl hp base c=some ce):Y1 P Γ I o a w ce:=by
 have h1:=hs.ev hx
 unfold Zyl at hc
 split at hc
 ·rename_i k k' hk hk'
  cases hc
  simp only[vop,Abs.convI] at hv
  split at hv
  ·rename_i hq
   rw[hq] at h1
   have e1:=rep_int h1
   exact⟨_,_,.inl (by simp[execOp,ho,e1,convert,run_underlying (ZsU hk),run_underlying (ZsU hk'),Conv.intToInt]),QH hv,Zgc _ _⟩
  ·cases hv
 ·split at hc
  ·rename_i hh
   cases hc
   simp at hh
   simp only[vop,Abs.convS] at hv
   split at hv
   ·rename_i hq
    rw[hq] at h1
    obtain⟨s1,e1,e2⟩:=Zio h1
    exact⟨_,_,.inl (by simp[execOp,ho,e1,convert,run_underlying (Zby hh.1),run_underlying (Zby hh.2)]),QH hv,Zvw e2⟩
   ·cases hv
  ·cases hc
theorem Zzg {o:Oper} {t:TypeId} {f:Nat} {x:Operand} {x' : Opd} {q:Nat×TypeId} {g:Bool} (ho:o.op=.field t x f) (hs:Zfl Γ w I sl a) (hq:Zju P t f=some q) (hg:ZhS P q.2=some g) (hx:Z9 x=some x')
  {ce:Zf} (hv:UA (Zmh g (P.cellsOf q.2) q.1 (evO sl x'))=some ce):Y1 P Γ I o a w ce:=by
 obtain⟨r,h3,h4⟩:=opt1_some hv
 obtain⟨cs,u,h5,h6,h7⟩:=Zvy (P:=P) hg (hs.ev hx) h3
 obtain⟨fs,y,h8,h9,h10,h11,h12⟩:=Zjn hq
 refine⟨u,r,.inl ?_,h4,h7⟩
 simp[execOp,ho,Instr.field,run_underlying h8,h9,h5,asAgg,h10,h11,h6]
theorem Zxk {o:Oper} {t:TypeId} {f:Nat} {x:Operand} {x' : Opd} {q:Nat×TypeId} (ho:o.op=.fieldAddr t x f) (hs:Zfl Γ w I sl a) (hq:Zju P t f=some q) (hx:Z9 x=some x')
  {ce:Zf} (hv:WU q.1 (evO sl x')=some ce):Y1 P Γ I o a w ce:=by
 obtain⟨u,r,h1,h2,h3⟩:=Zy5 (P:=P) hq (hs.ev hx) hv
 exact⟨u,r,.inl (by simp[execOp,ho,h1]),h2,h3⟩
theorem ZAi {o:Oper} {i:Nat} {x:Operand} {x' : Opd} (ho:o.op=.extract x i) (hs:Zfl Γ w I sl a) (hx:Z9 x=some x')
  {ce:Zf} (hv:Zt3 i (evO sl x')=some ce):Y1 P Γ I o a w ce:=by
 have h1:=hs.ev hx
 unfold Zt3 at hv
 split at hv
 ·rename_i vs hq
  rw[hq] at h1
  obtain⟨us,h2,h3⟩:=h1
  obtain⟨r,h4,h5⟩:=opt1_some hv
  obtain⟨u,h6,h7⟩:=h3.get i r h4
  have h6' : us[i]?=some u:=by simpa using h6
  exact⟨u,r,.inl (by simp[execOp,ho,Instr.extract,h2,h6']),h5,h7.rep⟩
 ·cases hv
theorem Zqe {x y:AV} {u v:Value} {ce:Zf} (hx:Rep Γ w I x u) (hy:Rep Γ w I y v) (at_:Array TypeId) (ty:TypeId) :
  (Zmk x y=some ce→∃ z r,(Builtin.min_ at_ ty #[u,v]).run P w=.ok z w∧ce=ceV r∧Rep Γ w I r z) ∧
  (Zml x y=some ce→∃ z r,(Builtin.max_ at_ ty #[u,v]).run P w=.ok z w∧ce=ceV r∧Rep Γ w I r z):=by
 constructor
 ·intro h
  unfold Zmk at h
  split at h
  ·split at h
   ·rename_i hk
    subst hk
    rw[rep_int hx,rep_int hy]
    exact⟨_,_,by simp[Builtin.min_,Builtin.min2];rfl,QH h,Zgc _ _⟩
   ·cases h
  ·cases h
 ·intro h
  unfold Zml at h
  split at h
  ·split at h
   ·rename_i hk
    subst hk
    rw[rep_int hx,rep_int hy]
    exact⟨_,_,by simp[Builtin.max_,Builtin.max2];rfl,QH h,Zgc _ _⟩
   ·cases h
  ·cases h
theorem Zxl {o:Oper} {t:TypeId} {x i:Operand} {x' i' : Opd} {c:COp} (ho:o.op=.index t x i) (hs:Zfl Γ w I sl a) (hx:Z9 x=some x') (hi:Z9 i=some i')
  (hc:Zt5 P x' i' (Zdj P t) (Zlw P t)=some c) {C:Orc} {M:Zu} {base:Nat} {ce:Zf} (hv:vop C M sl hp base c=some ce):Y1 P Γ I o a w ce:=by
 have h1:=hs.ev hx
 have h2:=hs.ev hi
 unfold Zt5 at hc
 split at hc
 ·rename_i hst
  cases hc
  simp only[vop] at hv
  obtain⟨n,hn,hv⟩:=Za hv
  obtain⟨k,e2⟩:=ZaO hn h2
  unfold ZvG at hv
  split at hv
  ·rename_i s hq
   rw[hq] at h1
   obtain⟨s1,e1,rfl⟩:=Zio h1
   unfold Zs1 at hv
   split at hv
   ·rename_i h0
    obtain⟨b,hb,hv⟩:=Za hv
    have hb' : s1[n.toNat]?=some b:=by
     have:s1.data[n.toNat]?=some b:=by simpa using hb
     exact this
    exact⟨_,_,.inl (by simp[execOp,ho,e1,e2,Instr.index,asIntOf,run_underlying (Zby hst),h0,hb']),QH hv,Zgc _ _⟩
   ·cases hv
  ·cases hv
 ·obtain⟨q,hq,hc⟩:=Za hc
  obtain⟨g,hg,hc⟩:=Za hc
  cases hc
  simp only[vop] at hv
  obtain⟨n,hn,hv⟩:=Za hv
  obtain⟨k,e2⟩:=ZaO hn h2
  unfold Zxe at hv
  split at hv
  ·rename_i hb
   obtain⟨r,h3,h4⟩:=opt1_some hv
   obtain⟨cs,u,h5,h6,h7⟩:=Zvy (P:=P) hg h1 h3
   obtain⟨ii,hii⟩:=Zkm hg
   exact⟨u,r,.inl (by simp[execOp,ho,h5,e2,Instr.index,asIntOf,run_underlying (ZsV hq),hb.1,hb.2,Xl hii,h6]),h4,h7⟩
  ·cases hv
end
end Go.Abs
