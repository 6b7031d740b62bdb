/- The abstract semantics and the model: operations that turn nothing,all together. Own text. -/
import Derived.Test.YtpobhkoombldlaaGreatAbsExec2
set_option linter.unusedVariables false
set_option linter.unusedSimpArgs false
namespace Go.Abs
open Go
def ZpS (P:Program) (o:Oper) (a:Act) (w:World) (u:Value) (w' : World):Prop:=
 (execOp a.eval o).run P w=.ok (.value u) w'∨((execOp a.eval o).run P w=.ok .skip w'∧u=undef)
theorem ZpS.wp {P:Program} {o:Oper} {a:Act} {w w' : World} {u:Value} (h:ZpS P o a w u w') {K:Act→World→Prop} {Q:Exit→Act→World→Prop} (hk:K (a.put o.dst u) w'):o.wp P a w K Q:=by
 unfold Oper.wp
 rcases h with h | ⟨h,rfl⟩
 ·rw[h];exact hk
 ·rw[h];exact hk
section
variable {P:Program} {Γ:Gh} {w:World} {I:Nat→Prop} {F A:Nat→Prop} {hp:Hp} {sl:Sl} {a:Act}
def ceV (r:AV):Zf := { eff := { val:=r },gone:=[] }
def Y2 (P:Program) (Γ:Gh) (I:Nat→Prop) (o:Oper) (a:Act) (w:World) (ce:Zf):Prop:=
 ∃ u r,ZpS P o a w u w∧ce=ceV r∧Rep Γ w I r u
theorem QG {v:AV} {ce:Zf} (h:Qs v=some ce):ce=ceV v:=by cases h;rfl
theorem opt1_some {v:Option AV} {ce:Zf} (h:Ut v=some ce):∃ r,v=some r∧ce=ceV r:=by
 obtain⟨r,h1,h2⟩:=Za h
 exact⟨r,h1,QG h2⟩
theorem ZmV {o:Oper} {x:Operand} {y:Opd} (ho:o.op=.move x∨o.op=.assign x) (hs:Zdl Γ w I sl a) (hc:Qb x=some y) {ce:Zf} (hv:Qs (evO sl y)=some ce):Y2 P Γ I o a w ce:=by
 refine⟨a.eval x,_,.inl ?_,QG hv,hs.ev hc⟩
 rcases ho with ho | ho<;>simp[execOp,ho]
theorem Zy4 {o:Oper} {x y z:Operand} {x' y' z' : Opd} (ho:o.op=.pick x y z) (hs:Zdl Γ w I sl a) (hx:Qb x=some x') (hy:Qb y=some y') (hz:Qb z=some z') {ce:Zf}
  (hv:ZgE (evO sl y') (evO sl z') (evO sl x')=some ce):Y2 P Γ I o a w ce:=by
 have h1:=hs.ev hx
 unfold ZgE at hv
 split at hv
 ·rename_i t hx'
  rw[hx'] at h1
  have h2:=Zfi h1
  split at hv
  ·rename_i ht
   subst ht
   exact⟨a.eval y,_,.inl (by simp[execOp,ho,h2,asBool]),QG hv,hs.ev hy⟩
  ·rename_i ht
   simp at ht
   subst ht
   exact⟨a.eval z,_,.inl (by simp[execOp,ho,h2,asBool]),QG hv,hs.ev hz⟩
 ·cases hv
theorem Zy5 {o:Oper} {t:TypeId} {x:Operand} {y:Opd} {g:Bool} (ho:o.op=.load t x) (hs:Zdl Γ w I sl a) (hh:ZbQ Γ w I F A hp) (hg:Zfr P t=some g) (hc:Qb x=some y) {ce:Zf}
  (hv:Ut (JU hp g (P.cellsOf t) (evO sl y))=some ce):Y2 P Γ I o a w ce:=by
 obtain⟨r,h1,h2⟩:=opt1_some hv
 obtain⟨u,h3,h4⟩:=Zvp (P:=P) hg hh (hs.ev hc) h1
 exact⟨u,r,.inl (by simp[execOp,ho,h3]),h2,h4⟩
theorem ZrC {o:Oper} {x:Operand} {y:Opd} (ho:o.op=.nilCheck x) (hs:Zdl Γ w I sl a) (hc:Qb x=some y) {ce:Zf} (hv:ZaX (evO sl y)=some ce):Y2 P Γ I o a w ce:=by
 have h1:=hs.ev hc
 unfold ZaX at hv
 split at hv
 ·rename_i h;rw[h] at h1;obtain⟨b,h2,h3⟩:=h1
  exact⟨_,_,.inl (by simp[execOp,ho,h3]),QG hv,b,h2,rfl⟩
 ·rename_i h;rw[h] at h1;obtain⟨b,n,c,h2,h3,h4⟩:=h1
  exact⟨_,_,.inl (by simp[execOp,ho,h4]),QG hv,b,n,c,h2,h3,rfl⟩
 ·rename_i h;rw[h] at h1;obtain⟨b,o',vs,h2,h3⟩:=h1
  exact⟨_,_,.inl (by simp[execOp,ho,h2]),QG hv,b,o',vs,rfl,h3⟩
 ·rename_i h;rw[h] at h1;obtain⟨us,h2,h3⟩:=h1
  exact⟨_,_,.inl (by simp[execOp,ho,h2]),QG hv,us,rfl,h3⟩
 ·cases hv
theorem ZnR {op:BinOp} {t:TypeId} {x y:Operand} {u v:Value} (hu:∀ c,u≠.agg c) (hn:u≠.nilIface):(eqGuard op t x y u v).run P w=.ok () w:=by
 unfold eqGuard
 cases op<;>simp<;>(cases u<;>simp at hu hn ⊢)
theorem ZtW {t:TypeId} (h:P.underlying t=some .bool) (x y:Bool):(binOp .eql t (.bool x) (.bool y)).run P w=.ok (.bool (x==y)) w:=by
 have h1:binOp .eql t (.bool x) (.bool y)=(do let r ← Op.equalIn (9999+1) t (.bool x) (.bool y);pure (.bool r)):=rfl
 rw[h1,Sem.run_bind,run_equalIn_bool' w 9999 t x y h]
 rfl
theorem ZtX {t:TypeId} (h:P.underlying t=some .bool) (x y:Bool):(binOp .neq t (.bool x) (.bool y)).run P w=.ok (.bool (!(x==y))) w:=by
 have h1:binOp .neq t (.bool x) (.bool y)=(do let r ← Op.equalIn (9999+1) t (.bool x) (.bool y);pure (.bool (!r))):=rfl
 rw[h1,Sem.run_bind,run_equalIn_bool' w 9999 t x y h]
 rfl
theorem ZtY {t:TypeId} (h:Zi3 P t=true):P.underlying t=some .bool:=by
 unfold Zi3 at h;split at h
 ·assumption
 ·cases h
theorem ZAd {o:Oper} {op:BinOp} {t ty' : TypeId} {x y:Operand} {x' y' : Opd} (ho:o.op=.binOp op t x y ty') (hs:Zdl Γ w I sl a) (hx:Qb x=some x') (hy:Qb y=some y') {ce:Zf}
  (hv:Zfp op (Zi3 P t) (evO sl x') (evO sl y')=some ce):Y2 P Γ I o a w ce:=by
 have h1:=hs.ev hx
 have h2:=hs.ev hy
 have fin:∀ {d:D} {u:Value},(∀ c,a.eval x≠.agg c)→a.eval x≠.nilIface→(binOp op t (a.eval x) (a.eval y)).run P w=.ok u w→YQ w I d u→ce=ceV (.d d)→Y2 P Γ I o a w ce:=
  fun h3 h4 h5 h6 h7=>⟨_,_,.inl (by simp[execOp,ho,ZnR h3 h4,h5]),h7,YO.2 h6⟩
 unfold Zfp at hv
 split at hv
 ·rename_i p q hp' hq
  rw[hp'] at h1;rw[hq] at h2
  have e1:=Zfi h1
  have e2:=Zfi h2
  split at hv
  ·rename_i hb
   have hu:=ZtY hb
   obtain⟨r,h3,h4⟩:=opt1_some hv
   unfold Zsm at h3
   split at h3
   ·cases h3
    exact fin (by simp[e1]) (by simp[e1]) (by rw[e1,e2];exact ZtW hu _ _) (ZdD _) h4
   ·cases h3
    exact fin (by simp[e1]) (by simp[e1]) (by rw[e1,e2];exact ZtX hu _ _) (ZdD _) h4
   ·cases h3
  ·cases hv
 ·obtain⟨r,h3,h4⟩:=opt1_some hv
  unfold vbin at h3
  split at h3
  ·rename_i k p k' q hp' hq
   rw[hp'] at h1;rw[hq] at h2
   have e1:=rep_int h1
   have e2:=rep_int h2
   unfold ZaR at h3
   split at h3
   ·obtain⟨d,h5,h6⟩:=Za h3;cases h6
    obtain⟨u,h7,h8⟩:=ZpC (P:=P) (w:=w) (I:=I) (k':=k') h5 t
    exact fin (by simp[e1]) (by simp[e1]) (by rw[e1,e2];exact h7) h8 h4
   ·obtain⟨d,h5,h6⟩:=Za h3;cases h6
    obtain⟨u,h7,h8⟩:=ZpC (P:=P) (w:=w) (I:=I) (k':=k') h5 t
    exact fin (by simp[e1]) (by simp[e1]) (by rw[e1,e2];exact h7) h8 h4
   ·split at h3
    ·rename_i hk
     subst hk
     obtain⟨d,h5,h6⟩:=Za h3;cases h6
     obtain⟨u,h7,h8⟩:=Zz8 (P:=P) (w:=w) (I:=I) h5 t
     exact fin (by simp[e1]) (by simp[e1]) (by rw[e1,e2];exact h7) h8 h4
    ·cases h3
  ·rename_i p q hp' hq
   rw[hp'] at h1;rw[hq] at h2
   obtain⟨s1,e1,rfl⟩:=Zga h1
   obtain⟨s2,e2,rfl⟩:=Zga h2
   obtain⟨d,h5,h6⟩:=Za h3;cases h6
   obtain⟨u,h7,h8⟩:=Zz9 (P:=P) (w:=w) (I:=I) h5 t
   exact fin (by simp[e1]) (by simp[e1]) (by rw[e1,e2];exact h7) h8 h4
  ·cases h3
theorem ZCh {o:Oper} {op:UnOp} {t:TypeId} {x:Operand} {x' : Opd} (ho:o.op=.unOp op t x) (hs:Zdl Γ w I sl a) (hx:Qb x=some x') {ce:Zf}
  (hv:Ut (vun op (evO sl x'))=some ce):Y2 P Γ I o a w ce:=by
 have h1:=hs.ev hx
 obtain⟨r,h3,h4⟩:=opt1_some hv
 unfold vun at h3
 split at h3
 ·rename_i hq
  rw[hq] at h1
  have e1:=rep_int h1
  unfold neg1 at h3
  split at h3
  ·cases h3
   exact⟨_,_,.inl (by simp[execOp,ho,e1,Op.unary,Op.intArith]),h4,ZdQ _ _⟩
  ·cases h3
 ·rename_i hq
  rw[hq] at h1
  have e1:=Zfi h1
  unfold not1 at h3
  split at h3
  ·cases h3
   exact⟨_,_,.inl (by simp[execOp,ho,e1,Op.unary]),h4,ZyV _⟩
  ·cases h3
 ·cases h3
theorem Zy6 {o:Oper} {s d:TypeId} {x:Operand} {x' : Opd} {c:COp} (ho:o.op=.convert s d x) (hs:Zdl Γ w I sl a) (hx:Qb x=some x') (hc:Zyc x' (ZbT P s) (ZbT P d) (Zy2 P s) (Zy2 P d)=some c)
  {C:Orc} {M:Zu} {base:Nat} {ce:Zf} (hv:vop C M sl hp base c=some ce):Y2 P Γ I o a w ce:=by
 have h1:=hs.ev hx
 unfold Zyc at hc
 split at hc
 ·rename_i k k' hk hk'
  cases hc
  simp only[vop,Abs.convI] at hv
  split at hv
  ·rename_i hq
   rw[hq] at h1
   have e1:=rep_int h1
   exact⟨_,_,.inl (by simp[execOp,ho,e1,convert,run_underlying (ZsH hk),run_underlying (ZsH hk'),Conv.intToInt]),QG hv,ZdQ _ _⟩
  ·cases hv
 ·split at hc
  ·rename_i hh
   cases hc
   simp at hh
   simp only[vop,Abs.convS] at hv
   split at hv
   ·rename_i hq
    rw[hq] at h1
    obtain⟨s1,e1,e2⟩:=Zga h1
    exact⟨_,_,.inl (by simp[execOp,ho,e1,convert,run_underlying (ZaH hh.1),run_underlying (ZaH hh.2)]),QG hv,Zvl e2⟩
   ·cases hv
  ·cases hc
theorem Zy7 {o:Oper} {t:TypeId} {f:Nat} {x:Operand} {x' : Opd} {q:Nat×TypeId} {g:Bool} (ho:o.op=.field t x f) (hs:Zdl Γ w I sl a) (hq:ZhC P t f=some q) (hg:Zfr P q.2=some g) (hx:Qb x=some x')
  {ce:Zf} (hv:Ut (Zlu g (P.cellsOf q.2) q.1 (evO sl x'))=some ce):Y2 P Γ I o a w ce:=by
 obtain⟨r,h3,h4⟩:=opt1_some hv
 obtain⟨cs,u,h5,h6,h7⟩:=Zvn (P:=P) hg (hs.ev hx) h3
 obtain⟨fs,y,h8,h9,h10,h11,h12⟩:=Zhv hq
 refine⟨u,r,.inl ?_,h4,h7⟩
 simp[execOp,ho,Instr.field,run_underlying h8,h9,h5,asAgg,h10,h11,h6]
theorem Zxb {o:Oper} {t:TypeId} {f:Nat} {x:Operand} {x' : Opd} {q:Nat×TypeId} (ho:o.op=.fieldAddr t x f) (hs:Zdl Γ w I sl a) (hq:ZhC P t f=some q) (hx:Qb x=some x')
  {ce:Zf} (hv:WN q.1 (evO sl x')=some ce):Y2 P Γ I o a w ce:=by
 obtain⟨u,r,h1,h2,h3⟩:=ZyW (P:=P) hq (hs.ev hx) hv
 exact⟨u,r,.inl (by simp[execOp,ho,h1]),h2,h3⟩
theorem ZAe {o:Oper} {i:Nat} {x:Operand} {x' : Opd} (ho:o.op=.extract x i) (hs:Zdl Γ w I sl a) (hx:Qb x=some x')
  {ce:Zf} (hv:ZtR i (evO sl x')=some ce):Y2 P Γ I o a w ce:=by
 have h1:=hs.ev hx
 unfold ZtR at hv
 split at hv
 ·rename_i vs hq
  rw[hq] at h1
  obtain⟨us,h2,h3⟩:=h1
  obtain⟨r,h4,h5⟩:=opt1_some hv
  obtain⟨u,h6,h7⟩:=h3.get i r h4
  have h6' : us[i]?=some u:=by simpa using h6
  exact⟨u,r,.inl (by simp[execOp,ho,Instr.extract,h2,h6']),h5,h7.rep⟩
 ·cases hv
theorem ZpT {x y:AV} {u v:Value} {ce:Zf} (hx:Rep Γ w I x u) (hy:Rep Γ w I y v) (at_:Array TypeId) (ty:TypeId) :
  (Zlx x y=some ce→∃ z r,(Builtin.min_ at_ ty #[u,v]).run P w=.ok z w∧ce=ceV r∧Rep Γ w I r z) ∧
  (Zly x y=some ce→∃ z r,(Builtin.max_ at_ ty #[u,v]).run P w=.ok z w∧ce=ceV r∧Rep Γ w I r z):=by
 constructor
 ·intro h
  unfold Zlx at h
  split at h
  ·split at h
   ·rename_i hk
    subst hk
    rw[rep_int hx,rep_int hy]
    exact⟨_,_,by simp[Builtin.min_,Builtin.min2];rfl,QG h,ZdQ _ _⟩
   ·cases h
  ·cases h
 ·intro h
  unfold Zly at h
  split at h
  ·split at h
   ·rename_i hk
    subst hk
    rw[rep_int hx,rep_int hy]
    exact⟨_,_,by simp[Builtin.max_,Builtin.max2];rfl,QG h,ZdQ _ _⟩
   ·cases h
  ·cases h
theorem Zxc {o:Oper} {t:TypeId} {x i:Operand} {x' i' : Opd} {c:COp} (ho:o.op=.index t x i) (hs:Zdl Γ w I sl a) (hx:Qb x=some x') (hi:Qb i=some i')
  (hc:ZtT P x' i' (ZbT P t) (ZkK P t)=some c) {C:Orc} {M:Zu} {base:Nat} {ce:Zf} (hv:vop C M sl hp base c=some ce):Y2 P Γ I o a w ce:=by
 have h1:=hs.ev hx
 have h2:=hs.ev hi
 unfold ZtT at hc
 split at hc
 ·rename_i hst
  cases hc
  simp only[vop] at hv
  obtain⟨n,hn,hv⟩:=Za hv
  obtain⟨k,e2⟩:=Zan hn h2
  unfold Zvv at hv
  split at hv
  ·rename_i s hq
   rw[hq] at h1
   obtain⟨s1,e1,rfl⟩:=Zga h1
   unfold ZsQ at hv
   split at hv
   ·rename_i h0
    obtain⟨b,hb,hv⟩:=Za hv
    have hb' : s1[n.toNat]?=some b:=by
     have:s1.data[n.toNat]?=some b:=by simpa using hb
     exact this
    exact⟨_,_,.inl (by simp[execOp,ho,e1,e2,Instr.index,asIntOf,run_underlying (ZaH hst),h0,hb']),QG hv,ZdQ _ _⟩
   ·cases hv
  ·cases hv
 ·obtain⟨q,hq,hc⟩:=Za hc
  obtain⟨g,hg,hc⟩:=Za hc
  cases hc
  simp only[vop] at hv
  obtain⟨n,hn,hv⟩:=Za hv
  obtain⟨k,e2⟩:=Zan hn h2
  unfold Zw5 at hv
  split at hv
  ·rename_i hb
   obtain⟨r,h3,h4⟩:=opt1_some hv
   obtain⟨cs,u,h5,h6,h7⟩:=Zvn (P:=P) hg h1 h3
   obtain⟨ii,hii⟩:=ZiZ hg
   exact⟨u,r,.inl (by simp[execOp,ho,h5,e2,Instr.index,asIntOf,run_underlying (ZsI hq),hb.1,hb.2,Xo hii,h6]),h4,h7⟩
  ·cases hv
end
end Go.Abs
