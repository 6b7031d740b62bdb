/- Own text. -/
import Derived.Test.YtdhgppkldoopaaaGreatAbsExec
set_option linter.unusedVariables false
set_option linter.unusedSimpArgs false
namespace Go.Abs
open Go
section
variable {P:Program} {Γ:Gh} {w:World} {I:Nat→Prop} {F A:Nat→Prop} {hp:Hp}
def Zvz (Γ:Gh) (w:World) (I:Nat→Prop):Option AV→Option Value→Prop
 | none,none=>True
 | some x,some v=>Rep Γ w I x v
 | _,_=>False
theorem Za0.evM {sl:Sl} {a:Act} (h:Za0 Γ w I sl a) {x:Option Operand} {y:Option Opd} (hc:cOO x=some y):Zvz Γ w I (evM sl y) (x.map a.eval):=by
 cases x with
 | none=>simp only[cOO] at hc;cases hc;exact trivial
 | some x=>
  simp only[cOO] at hc;obtain⟨y',h1,hc⟩:=Za hc;cases hc;exact h.ev h1
theorem ZyW {m n c:Nat} (ab:m≤c) {x:AV} {v:Value} (h:Rep Γ w I x v) (hb:bd m x=some n) (aa:BoundsCode) :
  (Instr.sliceBound v c aa).run P w=.ok n w∧n≤m:=by
 unfold bd at hb;obtain⟨i,hi,hb⟩:=Za hb;obtain⟨k,rfl⟩:=VG hi h;split at hb
 ·rename_i hc;cases hb;refine⟨run_sliceBound w k i c aa hc.1 (by omega),by omega⟩
 ·cases hb
theorem ZdN {len ae:Nat} (af:len≤ae) {lo hi:Option AV} {ab ad:Option Value} (hl:Zvz Γ w I lo ab) (hh:Zvz Γ w I hi ad) {b:Nat×Nat} (hb:ZsM len lo hi=some b) (aa:Bool) :
  (Instr.sliceBounds aa len ae ab ad none).run P w=.ok (b.1,b.2,ae) w∧b.1≤b.2∧b.2≤len:=by
 unfold ZsM at hb;obtain⟨h,h1,hb⟩:=Za hb;obtain⟨l,h2,hb⟩:=Za hb;cases hb;have hH:(match ad with | some v=>Instr.sliceBound v ae (if aa then .sliceAcap else .sliceAlen) | none=>pure len:Sem Nat).run P w=.ok h w∧h≤len:=by
  cases hi with
  | none=>cases ad with
   | none=>simp only[hiOf] at h1;cases h1;exact⟨rfl,Kk _⟩
   | some v=>exact hh.elim
  | some x=>cases ad with
   | none=>exact hh.elim
   | some v=>exact ZyW af hh h1 _
 have hL:(match ab with | some v=>Instr.sliceBound v h .sliceB | none=>pure 0:Sem Nat).run P w=.ok l w∧l≤h:=by
  cases lo with
  | none=>cases ab with
   | none=>simp only[loOf] at h2;cases h2;exact⟨rfl,Nat.zero_le _⟩
   | some v=>exact hl.elim
  | some x=>cases ab with
   | none=>exact hl.elim
   | some v=>exact ZyW (Kk _) hl h2 _
 refine⟨?_,hL.2,hH.2⟩;unfold Instr.sliceBounds;cases ad<;>cases ab<;>simp only[] at hH hL<;>simp[hH.1,hL.1]<;>(simp at hH hL;simp[hH,hL])
theorem ZsQ (a:Addr) (x y:Nat):(a.add x).add y=a.add (x+y):=by
 unfold Addr.add;by_cases hx:x=0
 ·simp[hx]
 ·by_cases hy:y=0
  ·simp[hx,hy]
  ·have:x+y≠0:=by omega
   simp[hx,hy,this,Lf]
theorem Zdd (a:Addr):a.add 0=a:=by simp[Addr.add]
theorem Zxv {t e:TypeId} (he:XU P t=some e) (hi:∃ i,P.info? e=some i) (ho:JW Γ w I F A hp) {lo ak : Option AV} {ad aa:Option Value} (hl:Zvz Γ w I lo ad) (hh:Zvz Γ w I ak aa)
  {x r:AV} {v:Value} (h:Rep Γ w I x v) (hp' : Vx hp (P.cellsOf e) lo ak x=some r) :
  ∃ u,(Instr.sliceAt t v ad aa none).run P w=.ok u w∧Rep Γ w I r u:=by
 obtain⟨i,hi⟩:=hi;have hu:=QN he;have ae:∀ (a:Option Addr) (n c:Nat) (b:Nat×Nat),(Instr.sliceBounds true n c ad aa none).run P w=.ok (b.1,b.2,c) w →
   (Instr.sliceAt t (.slice a n c) ad aa none).run P w=.ok (.slice (if c=b.1 then a else a.map (·.add (b.1*P.cellsOf e))) (b.2-b.1) (c-b.1)) w:=by
  intro a n c b hb;simp[Instr.sliceAt,Instr.slice,run_underlying hu,hb,QO hi]
 unfold Vx at hp';split at hp'
 ·rename_i xs;split at hp'
  ·rename_i al;obtain⟨b,hb,hp'⟩:=Za hp';cases hp';have:=Xf.1 h;simp only[Q4,ZQ] at this;obtain⟨a,c,hv,hc,h1⟩:=this;simp at hv;subst hv;obtain⟨hr,h2,h3⟩:=ZdN (P:=P) hc hl hh hb true;refine⟨_,ae _ _ _ _ hr,Xf.2 ?_⟩;have am:((xs.take b.2).drop b.1).length=b.2-b.1:=by simp;omega
   refine⟨_,c-b.1,by rw[am],by omega,?_⟩;by_cases hz:b.2=b.1
   ·left;exact Km (by omega)
   ·right
    rcases h1 with h1 | ⟨bb,o,sz,rfl,hI,h0,an⟩
    ·subst h1;simp at h3;omega
    ·have ar:¬c=b.1:=by omega
     obtain⟨y,hy⟩:∃ y,xs[0]?=some y:=⟨_,Kt (by omega)⟩
     have af:sz=P.cellsOf e:=by
      obtain⟨vs,h4,h5,h6⟩:=XK.1 an 0 y hy;rw[← h4,h6.length];exact al y (Kb hy)
     subst af;refine⟨bb,o+b.1*P.cellsOf e,P.cellsOf e,by simp[ar,W1],hI,h0,?_⟩;rw[XK] at an ⊢;intro j z ah;rw[KR,Lm] at ah;split at ah
     ·obtain⟨vs,h4,h5,h6⟩:=an _ z ah;exact⟨vs,h4,by rw[KG,← Lf] at h5;exact h5,h6⟩
     ·cases ah
  ·cases hp'
 ·obtain⟨b,hb,hp'⟩:=Za hp';cases hp';obtain⟨a,rfl⟩:=h;obtain⟨hr,h2,h3⟩:=ZdN (P:=P) (Kk 0) hl hh hb true;have au:b.1=0:=by omega
  have ab:b.2=0:=by omega
  exact⟨_,ae _ _ _ _ hr,a,by simp[au,ab]⟩
 ·rename_i id;obtain⟨a,n,c,sz,hb,rfl⟩:=h;unfold ZbU at hp';split at hp'
  ·rename_i av xs ex fz ao;split at hp'
   ·rename_i af;obtain⟨a',n',c',ag,hn,ai⟩:=ho id _ ao;rw[hb] at ag;cases ag;subst af;have aq:n≤c:=by
     rcases ai with ai | ⟨g,cur,e',_,_,_,ai,_⟩<;>omega
    unfold Zuk at hp';split at hp'
    ·cases hp';cases ad with
     | some v=>exact hl.elim
     | none=>cases aa with
      | some v=>exact hh.elim
      | none=>
       refine⟨_,ae _ _ _ (0,n) (by simp[Instr.sliceBounds]),a,n,c,_,hb,?_⟩;simp[Zdd]
    ·obtain⟨b,ab,hp'⟩:=Za hp';cases hp';rw[← hn] at ab;obtain⟨hr,h2,h3⟩:=ZdN (P:=P) aq hl hh ab true;refine⟨_,ae _ _ _ _ hr,a,n,c,_,_,hb,by omega,aq,rfl,?_,?_⟩
     ·intro h0;simp[h0,Zdd]
     ·by_cases aj:c=b.1
      ·right;exact aj
      ·left;simp[aj]
   ·cases hp'
  ·cases hp'
 ·rename_i id off n;obtain⟨a0,m,c,sz,a,hb,h1,h2,rfl,h3,h4⟩:=h;unfold JX at hp';split at hp'
  ·rename_i av xs ex fz ao;split at hp'
   ·rename_i af;obtain⟨b,ab,hp'⟩:=Za hp';cases hp';obtain⟨a',n',c',ag,hn,ai⟩:=ho id _ ao;rw[hb] at ag;cases ag;subst af;have aw:(Instr.sliceBounds true n (c-off) ad aa none).run P w=.ok (b.1,b.2,c-off) w∧b.1≤b.2∧off+b.2≤m:=by
     cases ak with
     | none=>
      obtain⟨h7,h8,h9⟩:=ZdN (P:=P) (show n≤c-off by omega) hl hh ab true;exact⟨h7,h8,by omega⟩
     | some hv=>
      cases aa with
      | none=>exact hh.elim
      | some vh=>
       obtain⟨h7,h8,h9⟩:=ZdN (P:=P) (show xs.length-off≤c-off by omega) hl hh ab true;exact⟨h7,h8,by omega⟩
    obtain⟨hr,h5,h6⟩:=aw;refine⟨_,ae _ _ _ _ hr,a0,m,c,_,_,hb,by omega,h2,by rw[Nat.sub_sub],?_,?_⟩
    ·intro h0;have ap:off=0:=by omega
     have ax:b.1=0:=by omega
     simp[ax,Zdd,h3 ap]
    ·by_cases aj:c-off=b.1
     ·right;omega
     ·left
      simp only[aj,Ko];rcases h4 with h4 | h4
      ·subst h4;cases a0<;>simp[ZsQ,KG]
      ·omega
   ·cases hp'
  ·cases hp'
 ·cases hp'
theorem Zjv (ho:JW Γ w I F A hp) {x:AV} {v:Value} {n:Nat} (h:Rep Γ w I x v) (hn:Zc5 hp x=some n):∃ a c,v=.slice a n c∧n≤c:=by
 unfold Zc5 at hn;split at hn
 ·cases hn;have:=Xf.1 h;simp only[Q4,ZQ] at this;obtain⟨a,c,hv,hc,h1⟩:=this;simp at hv;exact⟨a,c,hv,hc⟩
 ·cases hn;obtain⟨a,rfl⟩:=h;exact⟨a,0,rfl,Kk _⟩
 ·rename_i id;obtain⟨xs,hx,hn⟩:=Za hn;cases hn;obtain⟨a,n,c,sz,hb,rfl⟩:=h;unfold Wy at hx;split at hx
  ·rename_i ad;cases hx;obtain⟨a',n',c',ab,hn,aa⟩:=ho id _ ad;rw[hb] at ab;cases ab;refine⟨a,c,by rw[hn],?_⟩;rcases aa with aa | ⟨g,cur,e',_,_,_,aa,_⟩<;>omega
  ·rename_i ad;cases hx;obtain⟨a',n',c',ab,⟨hn,aa⟩,_⟩:=ho id _ ad;rw[hb] at ab;cases ab;refine⟨a,c,by rw[hn],?_⟩;rcases aa with aa | ⟨g,cur,e',_,_,_,_,aa,_⟩<;>omega
  ·cases hx
 ·cases hn;obtain⟨a0,m,c,sz,a,hb,h1,h2,rfl,_⟩:=h;exact⟨a,_,rfl,by omega⟩
 ·cases hn
theorem ZvA {t e:TypeId} (he:XU P t=some e) (hi:∃ i,P.info? e=some i) (ho:JW Γ w I F A hp) {x y z r:AV} {v vh vm:Value} (h:Rep Γ w I x v) (hh:Rep Γ w I y vh) (hm:Rep Γ w I z vm)
  (hp' : slice0 hp x (idx y) (idx z)=some r):∃ u,(Instr.sliceAt t v none (some vh) (some vm)).run P w=.ok u w∧Rep Γ w I r u:=by
 obtain⟨i,hi⟩:=hi;unfold slice0 at hp';split at hp'
 ·rename_i h1 h2;obtain⟨n,hn,hp'⟩:=Za hp';cases hp';obtain⟨a,c,rfl,hc⟩:=Zjv ho h hn;obtain⟨k1,rfl⟩:=VG h1 hh;obtain⟨k2,rfl⟩:=VG h2 hm;refine⟨.slice a 0 0,?_,a,rfl⟩;simp[Instr.sliceAt,Instr.slice,run_underlying (QN he),Instr.sliceBounds,Instr.sliceBound,asIntOf,QO hi]
 ·cases hp'
theorem ZvB {t e:TypeId} (he:XU P t=some e) (hi:∃ i,P.info? e=some i) (ho:JW Γ w I F A hp) {x y z u r:AV} {v vl vh vm:Value} (h:Rep Γ w I x v) (hl:Rep Γ w I y vl) (hh:Rep Γ w I z vh) (hm:Rep Γ w I u vm)
  (hp' : slice3 hp x (idx y) (idx z) (idx u)=some r):∃ q,(Instr.sliceAt t v (some vl) (some vh) (some vm)).run P w=.ok q w∧Rep Γ w I r q:=by
 obtain⟨i,hi⟩:=hi;unfold slice3 at hp';obtain⟨l,h1,hp'⟩:=Za hp';obtain⟨hI,h2,hp'⟩:=Za hp';obtain⟨m,h3,hp'⟩:=Za hp';obtain⟨n,h4,hp'⟩:=Za hp';split at hp'
 ·rename_i hc;cases hp';obtain⟨c1,c2,c3,c4⟩:=hc;obtain⟨a,c,rfl,hc⟩:=Zjv ho h h4;obtain⟨k1,rfl⟩:=VG h1 hl;obtain⟨k2,rfl⟩:=VG h2 hh;obtain⟨k3,rfl⟩:=VG h3 hm;have e1:=run_sliceBound (P:=P) w k3 m c .slice3Acap (by omega) (by omega);have e2:=run_sliceBound (P:=P) w k2 hI m.toNat .slice3B (by omega) (by omega);have e3:=run_sliceBound (P:=P) w k1 l hI.toNat .slice3C (by omega) (by omega);exact⟨_,by simp[Instr.sliceAt,Instr.slice,run_underlying (QN he),Instr.sliceBounds,e1,e2,e3,QO hi];rfl,trivial⟩
 ·cases hp'
theorem ZAj {t e ty:TypeId} (he:XU P t=some e) (ho:JW Γ w I F A hp) {x:AV} {v:Value} {n:Nat} (h:Rep Γ w I x v) (hn:Zc5 hp x=some n) :
  (Builtin.len_ #[t] ty #[v]).run P w=.ok (.int .i64 n) w:=by
 obtain⟨a,c,rfl,hc⟩:=Zjv ho h hn;simp[Builtin.len_,run_underlying (QN he),goInt]
theorem ZyX {t ty:TypeId} (he:JZ P t=true) {x:AV} {v:Value} {n:Nat} (h:Rep Γ w I x v) (hn:ZwQ x=some n) :
  (Builtin.len_ #[t] ty #[v]).run P w=.ok (.int .i64 n) w:=by
 unfold ZwQ at hn;split at hn
 ·cases hn;obtain⟨s,rfl,rfl⟩:=ZeG h;simp[Builtin.len_,run_underlying (Uv he),goInt]
 ·cases hn
theorem ZvC {t:TypeId} (he:JZ P t=true) {lo aa : Option AV} {ab ad:Option Value} (hl:Zvz Γ w I lo ab) (hh:Zvz Γ w I aa ad)
  {x r:AV} {v:Value} (h:Rep Γ w I x v) (hp' : sliceS lo aa x=some r) :
  ∃ u,(Instr.sliceAt t v ab ad none).run P w=.ok u w∧Rep Γ w I r u:=by
 unfold sliceS at hp';split at hp'
 ·obtain⟨b,hb,hp'⟩:=Za hp';cases hp';obtain⟨s,rfl,rfl⟩:=ZeG h;have ae:s.data.toList.length=s.size:=rfl;rw[ae] at hb;obtain⟨hr,h2,h3⟩:=ZdN (P:=P) (Kk _) hl hh hb false;refine⟨.string (s.extract b.1 b.2),?_,Zue ?_⟩
  ·simp[Instr.sliceAt,Instr.slice,run_underlying (Uv he),hr]
  ·rw[ByteArray.data_extract,Array.toList_extract,List.extract_eq_take_drop,List.drop_take]
 ·cases hp'
theorem ZpG (k:IntKind) (n:Int):Q4 w I (.int k n) (.int k n):=by simp[Q4,ZQ]
theorem Zbe (b:Bool):Q4 w I (.bool b) (.bool b):=by simp[Q4,ZQ]
theorem ZyY {op:BinOp} {k:IntKind} {a b:Int} {d:D} (h:Ud op k a b=some d) (t:TypeId):∃ u,(binOp op t (.int k a) (.int k b)).run P w=.ok u w∧Q4 w I d u:=by
 cases op<;>simp only[Ud] at h<;>first
  | (cases h;exact⟨_,by simp[binOp,Op.intArith,Op.intBits,Op.intCmp],ZpG _ _⟩)
  | (cases h;exact⟨_,by simp[binOp,Op.intArith,Op.intBits,Op.intCmp],Zbe _⟩)
  | (split at h
     ·cases h
     ·rename_i hb;cases h;exact⟨_,by simp[binOp,Op.intDiv,hb],ZpG _ _⟩)
  | (cases h;done)
theorem ZpH {op:BinOp} {k k' : IntKind} {a b:Int} {d:D} (h:ZlC op k a b=some d) (t:TypeId):∃ u,(binOp op t (.int k a) (.int k' b)).run P w=.ok u w∧Q4 w I d u:=by
 unfold ZlC at h;split at h
 ·cases h
 ·rename_i hb;cases op<;>simp only[] at h<;>first
   | (cases h;exact⟨_,by simp[binOp,Op.shift,hb],ZpG _ _⟩)
   | (cases h;done)
theorem ZyZ {op:BinOp} {x y:ByteArray} {d:D} (h:ZtI op x.data.toList y.data.toList=some d) (t:TypeId):∃ u,(binOp op t (.string x) (.string y)).run P w=.ok u w∧Q4 w I d u:=by
 have e1:(x.toList==y.toList)=(x.data.toList==y.data.toList):=by rw[ByteArray.toList_eq,ByteArray.toList_eq]
 cases op<;>simp only[ZtI] at h<;>first
  | (split at h
     ·rename_i hl;cases h;refine ⟨.string (x ++ y), ?_, ?_⟩
      ·have := run_string_add_sum (P := P) w x y (by
        have h1 : x.data.toList.length = x.size := rfl;have h2 : y.data.toList.length = y.size := rfl;simp only [Zu5] at hl; omega)
       simpa [binOp] using this
      ·simp [Q4, ZQ]
     ·cases h)
  | (cases h;exact⟨_,by simp[binOp,Op.stringOp,e1],Zbe _⟩)
  | (cases h;done)
end
end Go.Abs
set_option linter.unusedVariables false
set_option linter.unusedSimpArgs false
namespace Go.Abs
open Go
def ZpI (P:Program) (o:Oper) (a:Act) (w:World) (u:Value) (w' : World):Prop:=
 (execOp a.eval o).run P w=.ok (.value u) w'∨((execOp a.eval o).run P w=.ok .skip w'∧u=undef)
theorem ZpI.wp {P:Program} {o:Oper} {a:Act} {w w' : World} {u:Value} (h:ZpI P o a w u w') {K:Act→World→Prop} {Q:Exit→Act→World→Prop} (hk:K (a.put o.dst u) w'):o.wp P a w K Q:=by
 unfold Oper.wp;rcases h with h | ⟨h,rfl⟩
 ·rw[h];exact hk
 ·rw[h];exact hk
section
variable {P:Program} {Γ:Gh} {w:World} {I:Nat→Prop} {F A:Nat→Prop} {hp:Hp} {sl:Sl} {a:Act}
def ceV (r:AV):Ze := { eff := { val:=r },gone:=[] }
def X3 (P:Program) (Γ:Gh) (I:Nat→Prop) (o:Oper) (a:Act) (w:World) (ce:Ze):Prop:=
 ∃ u r,ZpI P o a w u w∧ce=ceV r∧Rep Γ w I r u
theorem Qj {v:AV} {ce:Ze} (h:QJ v=some ce):ce=ceV v:=by cases h;rfl
theorem opt1_some {v:Option AV} {ce:Ze} (h:Vy v=some ce):∃ r,v=some r∧ce=ceV r:=by
 obtain⟨r,h1,h2⟩:=Za h;exact⟨r,h1,Qj h2⟩
theorem ZlZ {o:Oper} {x:Operand} {y:Opd} (ho:o.op=.move x∨o.op=.assign x) (hs:Za0 Γ w I sl a) (hc:ZW x=some y) {ce:Ze} (hv:QJ (evO sl y)=some ce):X3 P Γ I o a w ce:=by
 refine⟨a.eval x,_,.inl ?_,Qj hv,hs.ev hc⟩;rcases ho with ho | ho<;>simp[execOp,ho]
theorem Zxw {o:Oper} {x y z:Operand} {x' y' z' : Opd} (ho:o.op=.pick x y z) (hs:Za0 Γ w I sl a) (hx:ZW x=some x') (hy:ZW y=some y') (hz:ZW z=some z') {ce:Ze}
  (hv:ZgR (evO sl y') (evO sl z') (evO sl x')=some ce):X3 P Γ I o a w ce:=by
 have h1:=hs.ev hx;unfold ZgR at hv;split at hv
 ·rename_i t aa;rw[aa] at h1;have h2:=ZdG h1;split at hv
  ·rename_i ht;subst ht;exact⟨a.eval y,_,.inl (by simp[execOp,ho,h2,asBool]),Qj hv,hs.ev hy⟩
  ·rename_i ht;simp at ht;subst ht;exact⟨a.eval z,_,.inl (by simp[execOp,ho,h2,asBool]),Qj hv,hs.ev hz⟩
 ·cases hv
theorem Zxx {o:Oper} {t:TypeId} {x:Operand} {y:Opd} {g:Bool} (ho:o.op=.load t x) (hs:Za0 Γ w I sl a) (hh:JW Γ w I F A hp) (hg:ZdI P t=some g) (hc:ZW x=some y) {ce:Ze}
  (hv:Vy (W2 hp g (P.cellsOf t) (evO sl y))=some ce):X3 P Γ I o a w ce:=by
 obtain⟨r,h1,h2⟩:=opt1_some hv;obtain⟨u,h3,h4⟩:=Zuh (P:=P) hg hh (hs.ev hc) h1;exact⟨u,r,.inl (by simp[execOp,ho,h3]),h2,h4⟩
theorem ZqN {o:Oper} {x:Operand} {y:Opd} (ho:o.op=.nilCheck x) (hs:Za0 Γ w I sl a) (hc:ZW x=some y) {ce:Ze} (hv:JY (evO sl y)=some ce):X3 P Γ I o a w ce:=by
 have h1:=hs.ev hc;unfold JY at hv;split at hv
 ·rename_i h;rw[h] at h1;obtain⟨b,h2,h3⟩:=h1;exact⟨_,_,.inl (by simp[execOp,ho,h3]),Qj hv,b,h2,rfl⟩
 ·rename_i h;rw[h] at h1;obtain⟨b,n,c,h2,h3,h4⟩:=h1;exact⟨_,_,.inl (by simp[execOp,ho,h4]),Qj hv,b,n,c,h2,h3,rfl⟩
 ·rename_i h;rw[h] at h1;obtain⟨b,o',vs,h2,h3⟩:=h1;exact⟨_,_,.inl (by simp[execOp,ho,h2]),Qj hv,b,o',vs,rfl,h3⟩
 ·rename_i h;rw[h] at h1;obtain⟨us,h2,h3⟩:=h1;exact⟨_,_,.inl (by simp[execOp,ho,h2]),Qj hv,us,rfl,h3⟩
 ·cases hv
theorem Zm9 {op:BinOp} {t:TypeId} {x y:Operand} {u v:Value} (hu:∀ c,u≠.agg c) (hn:u≠.nilIface):(eqGuard op t x y u v).run P w=.ok () w:=by
 unfold eqGuard;cases op<;>simp<;>(cases u<;>simp at hu hn ⊢)
theorem ZsR {t:TypeId} (h:P.underlying t=some .bool) (x y:Bool):(binOp .eql t (.bool x) (.bool y)).run P w=.ok (.bool (x==y)) w:=by
 have h1:binOp .eql t (.bool x) (.bool y)=(do let r ← Op.equalIn (9999+1) t (.bool x) (.bool y);pure (.bool r)):=rfl;rw[h1,Sem.run_bind,run_equalIn_bool' w 9999 t x y h];rfl
theorem ZsS {t:TypeId} (h:P.underlying t=some .bool) (x y:Bool):(binOp .neq t (.bool x) (.bool y)).run P w=.ok (.bool (!(x==y))) w:=by
 have h1:binOp .neq t (.bool x) (.bool y)=(do let r ← Op.equalIn (9999+1) t (.bool x) (.bool y);pure (.bool (!r))):=rfl;rw[h1,Sem.run_bind,run_equalIn_bool' w 9999 t x y h];rfl
theorem ZsT {t:TypeId} (h:Zht P t=true):P.underlying t=some .bool:=by
 unfold Zht at h;split at h
 ·assumption
 ·cases h
theorem Zy0 {o:Oper} {op:BinOp} {t ab : TypeId} {x y:Operand} {x' y' : Opd} (ho:o.op=.binOp op t x y ab) (hs:Za0 Γ w I sl a) (hx:ZW x=some x') (hy:ZW y=some y') {ce:Ze}
  (hv:Zpv op (Zht P t) (evO sl x') (evO sl y')=some ce):X3 P Γ I o a w ce:=by
 have h1:=hs.ev hx;have h2:=hs.ev hy;have aa:∀ {d:D} {u:Value},(∀ c,a.eval x≠.agg c)→a.eval x≠.nilIface→(binOp op t (a.eval x) (a.eval y)).run P w=.ok u w→Q4 w I d u→ce=ceV (.d d)→X3 P Γ I o a w ce:=
  fun h3 h4 h5 h6 h7=>⟨_,_,.inl (by simp[execOp,ho,Zm9 h3 h4,h5]),h7,Xf.2 h6⟩
 unfold Zpv at hv;split at hv
 ·rename_i p q hp' hq;rw[hp'] at h1;rw[hq] at h2;have e1:=ZdG h1;have e2:=ZdG h2;split at hv
  ·rename_i hb;have hu:=ZsT hb;obtain⟨r,h3,h4⟩:=opt1_some hv;unfold Zq7 at h3;split at h3
   ·cases h3;exact aa (by simp[e1]) (by simp[e1]) (by rw[e1,e2];exact ZsR hu _ _) (Zbe _) h4
   ·cases h3;exact aa (by simp[e1]) (by simp[e1]) (by rw[e1,e2];exact ZsS hu _ _) (Zbe _) h4
   ·cases h3
  ·cases hv
 ·obtain⟨r,h3,h4⟩:=opt1_some hv;unfold vbin at h3;split at h3
  ·rename_i k p k' q hp' hq;rw[hp'] at h1;rw[hq] at h2;have e1:=rep_int h1;have e2:=rep_int h2;unfold JT at h3;split at h3
   ·obtain⟨d,h5,h6⟩:=Za h3;cases h6;obtain⟨u,h7,h8⟩:=ZpH (P:=P) (w:=w) (I:=I) (k':=k') h5 t;exact aa (by simp[e1]) (by simp[e1]) (by rw[e1,e2];exact h7) h8 h4
   ·obtain⟨d,h5,h6⟩:=Za h3;cases h6;obtain⟨u,h7,h8⟩:=ZpH (P:=P) (w:=w) (I:=I) (k':=k') h5 t;exact aa (by simp[e1]) (by simp[e1]) (by rw[e1,e2];exact h7) h8 h4
   ·split at h3
    ·rename_i hk;subst hk;obtain⟨d,h5,h6⟩:=Za h3;cases h6;obtain⟨u,h7,h8⟩:=ZyY (P:=P) (w:=w) (I:=I) h5 t;exact aa (by simp[e1]) (by simp[e1]) (by rw[e1,e2];exact h7) h8 h4
    ·cases h3
  ·rename_i p q hp' hq;rw[hp'] at h1;rw[hq] at h2;obtain⟨s1,e1,rfl⟩:=ZeG h1;obtain⟨s2,e2,rfl⟩:=ZeG h2;obtain⟨d,h5,h6⟩:=Za h3;cases h6;obtain⟨u,h7,h8⟩:=ZyZ (P:=P) (w:=w) (I:=I) h5 t;exact aa (by simp[e1]) (by simp[e1]) (by rw[e1,e2];exact h7) h8 h4
  ·cases h3
theorem ZAk {o:Oper} {op:UnOp} {t:TypeId} {x:Operand} {x' : Opd} (ho:o.op=.unOp op t x) (hs:Za0 Γ w I sl a) (hx:ZW x=some x') {ce:Ze}
  (hv:Vy (vun op (evO sl x'))=some ce):X3 P Γ I o a w ce:=by
 have h1:=hs.ev hx;obtain⟨r,h3,h4⟩:=opt1_some hv;unfold vun at h3;split at h3
 ·rename_i hq;rw[hq] at h1;have e1:=rep_int h1;unfold neg1 at h3;split at h3
  ·cases h3;exact⟨_,_,.inl (by simp[execOp,ho,e1,Op.unary,Op.intArith]),h4,ZbQ _ _⟩
  ·cases h3
 ·rename_i hq;rw[hq] at h1;have e1:=ZdG h1;unfold not1 at h3;split at h3
  ·cases h3;exact⟨_,_,.inl (by simp[execOp,ho,e1,Op.unary]),h4,Zxj _⟩
  ·cases h3
 ·cases h3
theorem Zxy {o:Oper} {s d:TypeId} {x:Operand} {x' : Opd} {c:COp} (ho:o.op=.convert s d x) (hs:Za0 Γ w I sl a) (hx:ZW x=some x') (hc:Zwv x' (JZ P s) (JZ P d) (Zxt P s) (Zxt P d)=some c)
  {C:Orc} {M:Zm} {base:Nat} {ce:Ze} (hv:vop C M sl hp base c=some ce):X3 P Γ I o a w ce:=by
 have h1:=hs.ev hx;unfold Zwv at hc;split at hc
 ·rename_i k k' hk aa;cases hc;simp only[vop,Abs.convI] at hv;split at hv
  ·rename_i hq;rw[hq] at h1;have e1:=rep_int h1;exact⟨_,_,.inl (by simp[execOp,ho,e1,convert,run_underlying (Zrs hk),run_underlying (Zrs aa),Conv.intToInt]),Qj hv,ZbQ _ _⟩
  ·cases hv
 ·split at hc
  ·rename_i hh;cases hc;simp at hh;simp only[vop,Abs.convS] at hv;split at hv
   ·rename_i hq;rw[hq] at h1;obtain⟨s1,e1,e2⟩:=ZeG h1;exact⟨_,_,.inl (by simp[execOp,ho,e1,convert,run_underlying (Uv hh.1),run_underlying (Uv hh.2)]),Qj hv,Zue e2⟩
   ·cases hv
  ·cases hc
theorem Zxz {o:Oper} {t:TypeId} {f:Nat} {x:Operand} {x' : Opd} {q:Nat×TypeId} {g:Bool} (ho:o.op=.field t x f) (hs:Za0 Γ w I sl a) (hq:ZeM P t f=some q) (hg:ZdI P q.2=some g) (hx:ZW x=some x')
  {ce:Ze} (hv:Vy (ZkR g (P.cellsOf q.2) q.1 (evO sl x'))=some ce):X3 P Γ I o a w ce:=by
 obtain⟨r,h3,h4⟩:=opt1_some hv;obtain⟨cs,u,h5,h6,h7⟩:=Zug (P:=P) hg (hs.ev hx) h3;obtain⟨fs,y,h8,h9,aa,ab,ad⟩:=ZgG hq;refine⟨u,r,.inl ?_,h4,h7⟩;simp[execOp,ho,Instr.field,run_underlying h8,h9,h5,asAgg,aa,ab,h6]
theorem ZvD {o:Oper} {t:TypeId} {f:Nat} {x:Operand} {x' : Opd} {q:Nat×TypeId} (ho:o.op=.fieldAddr t x f) (hs:Za0 Γ w I sl a) (hq:ZeM P t f=some q) (hx:ZW x=some x')
  {ce:Ze} (hv:Wf q.1 (evO sl x')=some ce):X3 P Γ I o a w ce:=by
 obtain⟨u,r,h1,h2,h3⟩:=Zxl (P:=P) hq (hs.ev hx) hv;exact⟨u,r,.inl (by simp[execOp,ho,h1]),h2,h3⟩
theorem Zy1 {o:Oper} {i:Nat} {x:Operand} {x' : Opd} (ho:o.op=.extract x i) (hs:Za0 Γ w I sl a) (hx:ZW x=some x')
  {ce:Ze} (hv:Zun i (evO sl x')=some ce):X3 P Γ I o a w ce:=by
 have h1:=hs.ev hx;unfold Zun at hv;split at hv
 ·rename_i vs hq;rw[hq] at h1;obtain⟨us,h2,h3⟩:=h1;obtain⟨r,h4,h5⟩:=opt1_some hv;obtain⟨u,h6,h7⟩:=h3.get i r h4;have aa : us[i]?=some u:=by simpa using h6
  exact⟨u,r,.inl (by simp[execOp,ho,Instr.extract,h2,aa]),h5,h7.rep⟩
 ·cases hv
theorem ZpJ {x y:AV} {u v:Value} {ce:Ze} (hx:Rep Γ w I x u) (hy:Rep Γ w I y v) (at_:Array TypeId) (ty:TypeId) :
  (Zm5 x y=some ce→∃ z r,(Builtin.min_ at_ ty #[u,v]).run P w=.ok z w∧ce=ceV r∧Rep Γ w I r z) ∧
  (Zm6 x y=some ce→∃ z r,(Builtin.max_ at_ ty #[u,v]).run P w=.ok z w∧ce=ceV r∧Rep Γ w I r z):=by
 constructor
 ·intro h;unfold Zm5 at h;split at h
  ·split at h
   ·rename_i hk;subst hk;rw[rep_int hx,rep_int hy];exact⟨_,_,by simp[Builtin.min_,Builtin.min2];rfl,Qj h,ZbQ _ _⟩
   ·cases h
  ·cases h
 ·intro h;unfold Zm6 at h;split at h
  ·split at h
   ·rename_i hk;subst hk;rw[rep_int hx,rep_int hy];exact⟨_,_,by simp[Builtin.max_,Builtin.max2];rfl,Qj h,ZbQ _ _⟩
   ·cases h
  ·cases h
theorem ZvE {o:Oper} {t:TypeId} {x i:Operand} {x' i' : Opd} {c:COp} (ho:o.op=.index t x i) (hs:Za0 Γ w I sl a) (hx:ZW x=some x') (hi:ZW i=some i')
  (hc:ZsO P x' i' (JZ P t) (Zjs P t)=some c) {C:Orc} {M:Zm} {base:Nat} {ce:Ze} (hv:vop C M sl hp base c=some ce):X3 P Γ I o a w ce:=by
 have h1:=hs.ev hx;have h2:=hs.ev hi;unfold ZsO at hc;split at hc
 ·rename_i aa;cases hc;simp only[vop] at hv;obtain⟨n,hn,hv⟩:=Za hv;obtain⟨k,e2⟩:=VG hn h2;unfold Zvt at hv;split at hv
  ·rename_i s hq;rw[hq] at h1;obtain⟨s1,e1,rfl⟩:=ZeG h1;unfold Zum at hv;split at hv
   ·rename_i h0;obtain⟨b,hb,hv⟩:=Za hv;have ab : s1[n.toNat]?=some b:=by
     have:s1.data[n.toNat]?=some b:=by simpa using hb
     exact this
    exact⟨_,_,.inl (by simp[execOp,ho,e1,e2,Instr.index,asIntOf,run_underlying (Uv aa),h0,ab]),Qj hv,ZbQ _ _⟩
   ·cases hv
  ·cases hv
 ·obtain⟨q,hq,hc⟩:=Za hc;obtain⟨g,hg,hc⟩:=Za hc;cases hc;simp only[vop] at hv;obtain⟨n,hn,hv⟩:=Za hv;obtain⟨k,e2⟩:=VG hn h2;unfold Zxs at hv;split at hv
  ·rename_i hb;obtain⟨r,h3,h4⟩:=opt1_some hv;obtain⟨cs,u,h5,h6,h7⟩:=Zug (P:=P) hg h1 h3;obtain⟨ii,ad⟩:=Zho hg;exact⟨u,r,.inl (by simp[execOp,ho,h5,e2,Instr.index,asIntOf,run_underlying (Zrt hq),hb.1,hb.2,QO ad,h6]),h4,h7⟩
  ·cases hv
end
end Go.Abs
