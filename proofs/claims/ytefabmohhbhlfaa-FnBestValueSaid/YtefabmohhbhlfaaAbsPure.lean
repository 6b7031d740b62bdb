/- Own text. -/
import Derived.Test.YtefabmohhbhlfaaAbsExec
set_option linter.unusedVariables false
set_option linter.unusedSimpArgs false
namespace Go.Abs
open Go
section
variable {P:Program} {Γ:Gh} {w:World} {I:Nat→Prop} {F A:Nat→Prop} {hp:Hp}
def Zl1 (Γ:Gh) (w:World) (I:Nat→Prop):Option AV→Option Value→Prop
 | none,none=>True
 | some x,some v=>Rep Γ w I x v
 | _,_=>False
theorem WV.evM {sl:Sl} {a:Act} (h:WV Γ w I sl a) {x:Option Operand} {y:Option Opd} (hc:cOO x=some y):Zl1 Γ w I (evM sl y) (x.map a.eval):=by
 cases x with
 | none=>simp only[cOO] at hc;cases hc;exact trivial
 | some x=>
  simp only[cOO] at hc;obtain⟨y',h1,hc⟩:=Za hc;cases hc;exact h.ev h1
theorem Zo5 {m n c:Nat} (ab:m≤c) {x:AV} {v:Value} (h:Rep Γ w I x v) (hb:bd m x=some n) (aa:BoundsCode) :
  (Instr.sliceBound v c aa).run P w=.ok n w∧n≤m:=by
 unfold bd at hb;obtain⟨i,hi,hb⟩:=Za hb;obtain⟨k,rfl⟩:=Yb hi h;split at hb
 ·rename_i hc;cases hb;refine⟨run_sliceBound w k i c aa hc.1 (by omega),by omega⟩
 ·cases hb
theorem Jr {len ae:Nat} (af:len≤ae) {lo hi:Option AV} {ab ad:Option Value} (hl:Zl1 Γ w I lo ab) (hh:Zl1 Γ w I hi ad) {b:Nat×Nat} (hb:ZjL len lo hi=some b) (aa:Bool) :
  (Instr.sliceBounds aa len ae ab ad none).run P w=.ok (b.1,b.2,ae) w∧b.1≤b.2∧b.2≤len:=by
 unfold ZjL at hb;obtain⟨h,h1,hb⟩:=Za hb;obtain⟨l,h2,hb⟩:=Za hb;cases hb;have hH:(match ad with | some v=>Instr.sliceBound v ae (if aa then .sliceAcap else .sliceAlen) | none=>pure len:Sem Nat).run P w=.ok h w∧h≤len:=by
  cases hi with
  | none=>cases ad with
   | none=>simp only[hiOf] at h1;cases h1;exact⟨rfl,Kf _⟩
   | some v=>exact hh.elim
  | some x=>cases ad with
   | none=>exact hh.elim
   | some v=>exact Zo5 af hh h1 _
 have hL:(match ab with | some v=>Instr.sliceBound v h .sliceB | none=>pure 0:Sem Nat).run P w=.ok l w∧l≤h:=by
  cases lo with
  | none=>cases ab with
   | none=>simp only[loOf] at h2;cases h2;exact⟨rfl,Nat.zero_le _⟩
   | some v=>exact hl.elim
  | some x=>cases ab with
   | none=>exact hl.elim
   | some v=>exact Zo5 (Kf _) hl h2 _
 refine⟨?_,hL.2,hH.2⟩;unfold Instr.sliceBounds;cases ad<;>cases ab<;>simp only[] at hH hL<;>simp[hH.1,hL.1]<;>(simp at hH hL;simp[hH,hL])
theorem ZjQ (a:Addr) (x y:Nat):(a.add x).add y=a.add (x+y):=by
 unfold Addr.add;by_cases hx:x=0
 ·simp[hx]
 ·by_cases hy:y=0
  ·simp[hx,hy]
  ·have:x+y≠0:=by omega
   simp[hx,hy,this,KD]
theorem U1 (a:Addr):a.add 0=a:=by simp[Addr.add]
theorem Zn3 {t e:TypeId} (he:Q1 P t=some e) (hi:∃ i,P.info? e=some i) (ho:V9 Γ w I F A hp) {lo ak : Option AV} {ad aa:Option Value} (hl:Zl1 Γ w I lo ad) (hh:Zl1 Γ w I ak aa)
  {x r:AV} {v:Value} (h:Rep Γ w I x v) (hp' : X4 hp (P.cellsOf e) lo ak x=some r) :
  ∃ u,(Instr.sliceAt t v ad aa none).run P w=.ok u w∧Rep Γ w I r u:=by
 obtain⟨i,hi⟩:=hi;have hu:=Ql he;have ae:∀ (a:Option Addr) (n c:Nat) (b:Nat×Nat),(Instr.sliceBounds true n c ad aa none).run P w=.ok (b.1,b.2,c) w →
   (Instr.sliceAt t (.slice a n c) ad aa none).run P w=.ok (.slice (if c=b.1 then a else a.map (·.add (b.1*P.cellsOf e))) (b.2-b.1) (c-b.1)) w:=by
  intro a n c b hb;simp[Instr.sliceAt,Instr.slice,run_underlying hu,hb,Qm hi]
 unfold X4 at hp';split at hp'
 ·rename_i xs;split at hp'
  ·rename_i al;obtain⟨b,hb,hp'⟩:=Za hp';cases hp';have:=QB.1 h;simp only[QV,ZG] at this;obtain⟨a,c,hv,hc,h1⟩:=this;simp at hv;subst hv;obtain⟨hr,h2,h3⟩:=Jr (P:=P) hc hl hh hb true;refine⟨_,ae _ _ _ _ hr,QB.2 ?_⟩;have am:((xs.take b.2).drop b.1).length=b.2-b.1:=by simp;omega
   refine⟨_,c-b.1,by rw[am],by omega,?_⟩;by_cases hz:b.2=b.1
   ·left;exact Kh (by omega)
   ·right
    rcases h1 with h1 | ⟨bb,o,sz,rfl,hI,h0,an⟩
    ·subst h1;simp at h3;omega
    ·have ar:¬c=b.1:=by omega
     obtain⟨y,hy⟩:∃ y,xs[0]?=some y:=⟨_,Kx (by omega)⟩
     have af:sz=P.cellsOf e:=by
      obtain⟨vs,h4,h5,h6⟩:=Q8.1 an 0 y hy;rw[← h4,h6.length];exact al y (Kg hy)
     subst af;refine⟨bb,o+b.1*P.cellsOf e,P.cellsOf e,by simp[ar,Yq],hI,h0,?_⟩;rw[Q8] at an ⊢;intro j z ah;rw[KX,KS] at ah;split at ah
     ·obtain⟨vs,h4,h5,h6⟩:=an _ z ah;exact⟨vs,h4,by rw[KA,← KD] at h5;exact h5,h6⟩
     ·cases ah
  ·cases hp'
 ·obtain⟨b,hb,hp'⟩:=Za hp';cases hp';obtain⟨a,rfl⟩:=h;obtain⟨hr,h2,h3⟩:=Jr (P:=P) (Kf 0) hl hh hb true;have au:b.1=0:=by omega
  have ab:b.2=0:=by omega
  exact⟨_,ae _ _ _ _ hr,a,by simp[au,ab]⟩
 ·rename_i id;obtain⟨a,n,c,sz,hb,rfl⟩:=h;unfold Ud at hp';split at hp'
  ·rename_i av xs ex fz ao;split at hp'
   ·rename_i af;obtain⟨a',n',c',ag,hn,ai⟩:=ho id _ ao;rw[hb] at ag;cases ag;subst af;have aq:n≤c:=by
     rcases ai with ai | ⟨g,cur,e',_,_,_,ai,_⟩<;>omega
    unfold ZkT at hp';split at hp'
    ·cases hp';cases ad with
     | some v=>exact hl.elim
     | none=>cases aa with
      | some v=>exact hh.elim
      | none=>
       refine⟨_,ae _ _ _ (0,n) (by simp[Instr.sliceBounds]),a,n,c,_,hb,?_⟩;simp[U1]
    ·obtain⟨b,ab,hp'⟩:=Za hp';cases hp';rw[← hn] at ab;obtain⟨hr,h2,h3⟩:=Jr (P:=P) aq hl hh ab true;refine⟨_,ae _ _ _ _ hr,a,n,c,_,_,hb,by omega,aq,rfl,?_,?_⟩
     ·intro h0;simp[h0,U1]
     ·by_cases aj:c=b.1
      ·right;exact aj
      ·left;simp[aj]
   ·cases hp'
  ·cases hp'
 ·rename_i id off n;obtain⟨a0,m,c,sz,a,hb,h1,h2,rfl,h3,h4⟩:=h;unfold Wb at hp';split at hp'
  ·rename_i av xs ex fz ao;split at hp'
   ·rename_i af;obtain⟨b,ab,hp'⟩:=Za hp';cases hp';obtain⟨a',n',c',ag,hn,ai⟩:=ho id _ ao;rw[hb] at ag;cases ag;subst af;have aw:(Instr.sliceBounds true n (c-off) ad aa none).run P w=.ok (b.1,b.2,c-off) w∧b.1≤b.2∧off+b.2≤m:=by
     cases ak with
     | none=>
      obtain⟨h7,h8,h9⟩:=Jr (P:=P) (show n≤c-off by omega) hl hh ab true;exact⟨h7,h8,by omega⟩
     | some hv=>
      cases aa with
      | none=>exact hh.elim
      | some vh=>
       obtain⟨h7,h8,h9⟩:=Jr (P:=P) (show xs.length-off≤c-off by omega) hl hh ab true;exact⟨h7,h8,by omega⟩
    obtain⟨hr,h5,h6⟩:=aw;refine⟨_,ae _ _ _ _ hr,a0,m,c,_,_,hb,by omega,h2,by rw[Nat.sub_sub],?_,?_⟩
    ·intro h0;have ap:off=0:=by omega
     have ax:b.1=0:=by omega
     simp[ax,U1,h3 ap]
    ·by_cases aj:c-off=b.1
     ·right;omega
     ·left
      simp only[aj,Kj];rcases h4 with h4 | h4
      ·subst h4;cases a0<;>simp[ZjQ,KA]
      ·omega
   ·cases hp'
  ·cases hp'
 ·cases hp'
theorem Zce (ho:V9 Γ w I F A hp) {x:AV} {v:Value} {n:Nat} (h:Rep Γ w I x v) (hn:UV hp x=some n):∃ a c,v=.slice a n c∧n≤c:=by
 unfold UV at hn;split at hn
 ·cases hn;have:=QB.1 h;simp only[QV,ZG] at this;obtain⟨a,c,hv,hc,h1⟩:=this;simp at hv;exact⟨a,c,hv,hc⟩
 ·cases hn;obtain⟨a,rfl⟩:=h;exact⟨a,0,rfl,Kf _⟩
 ·rename_i id;obtain⟨xs,hx,hn⟩:=Za hn;cases hn;obtain⟨a,n,c,sz,hb,rfl⟩:=h;unfold Zfv at hx;split at hx
  ·rename_i ad;cases hx;obtain⟨a',n',c',ab,hn,aa⟩:=ho id _ ad;rw[hb] at ab;cases ab;refine⟨a,c,by rw[hn],?_⟩;rcases aa with aa | ⟨g,cur,e',_,_,_,aa,_⟩<;>omega
  ·rename_i ad;cases hx;obtain⟨a',n',c',ab,⟨hn,aa⟩,_⟩:=ho id _ ad;rw[hb] at ab;cases ab;refine⟨a,c,by rw[hn],?_⟩;rcases aa with aa | ⟨g,cur,e',_,_,_,_,aa,_⟩<;>omega
  ·cases hx
 ·cases hn;obtain⟨a0,m,c,sz,a,hb,h1,h2,rfl,_⟩:=h;exact⟨a,_,rfl,by omega⟩
 ·cases hn
theorem Zl2 {t e:TypeId} (he:Q1 P t=some e) (hi:∃ i,P.info? e=some i) (ho:V9 Γ w I F A hp) {x y z r:AV} {v vh vm:Value} (h:Rep Γ w I x v) (hh:Rep Γ w I y vh) (hm:Rep Γ w I z vm)
  (hp' : slice0 hp x (idx y) (idx z)=some r):∃ u,(Instr.sliceAt t v none (some vh) (some vm)).run P w=.ok u w∧Rep Γ w I r u:=by
 obtain⟨i,hi⟩:=hi;unfold slice0 at hp';split at hp'
 ·rename_i h1 h2;obtain⟨n,hn,hp'⟩:=Za hp';cases hp';obtain⟨a,c,rfl,hc⟩:=Zce ho h hn;obtain⟨k1,rfl⟩:=Yb h1 hh;obtain⟨k2,rfl⟩:=Yb h2 hm;refine⟨.slice a 0 0,?_,a,rfl⟩;simp[Instr.sliceAt,Instr.slice,run_underlying (Ql he),Instr.sliceBounds,Instr.sliceBound,asIntOf,Qm hi]
 ·cases hp'
theorem Zl3 {t e:TypeId} (he:Q1 P t=some e) (hi:∃ i,P.info? e=some i) (ho:V9 Γ w I F A hp) {x y z u r:AV} {v vl vh vm:Value} (h:Rep Γ w I x v) (hl:Rep Γ w I y vl) (hh:Rep Γ w I z vh) (hm:Rep Γ w I u vm)
  (hp' : slice3 hp x (idx y) (idx z) (idx u)=some r):∃ q,(Instr.sliceAt t v (some vl) (some vh) (some vm)).run P w=.ok q w∧Rep Γ w I r q:=by
 obtain⟨i,hi⟩:=hi;unfold slice3 at hp';obtain⟨l,h1,hp'⟩:=Za hp';obtain⟨hI,h2,hp'⟩:=Za hp';obtain⟨m,h3,hp'⟩:=Za hp';obtain⟨n,h4,hp'⟩:=Za hp';split at hp'
 ·rename_i hc;cases hp';obtain⟨c1,c2,c3,c4⟩:=hc;obtain⟨a,c,rfl,hc⟩:=Zce ho h h4;obtain⟨k1,rfl⟩:=Yb h1 hl;obtain⟨k2,rfl⟩:=Yb h2 hh;obtain⟨k3,rfl⟩:=Yb h3 hm;have e1:=run_sliceBound (P:=P) w k3 m c .slice3Acap (by omega) (by omega);have e2:=run_sliceBound (P:=P) w k2 hI m.toNat .slice3B (by omega) (by omega);have e3:=run_sliceBound (P:=P) w k1 l hI.toNat .slice3C (by omega) (by omega);exact⟨_,by simp[Instr.sliceAt,Instr.slice,run_underlying (Ql he),Instr.sliceBounds,e1,e2,e3,Qm hi];rfl,trivial⟩
 ·cases hp'
theorem Zqx {t e ty:TypeId} (he:Q1 P t=some e) (ho:V9 Γ w I F A hp) {x:AV} {v:Value} {n:Nat} (h:Rep Γ w I x v) (hn:UV hp x=some n) :
  (Builtin.len_ #[t] ty #[v]).run P w=.ok (.int .i64 n) w:=by
 obtain⟨a,c,rfl,hc⟩:=Zce ho h hn;simp[Builtin.len_,run_underlying (Ql he),goInt]
theorem Zo6 {t ty:TypeId} (he:Wd P t=true) {x:AV} {v:Value} {n:Nat} (h:Rep Γ w I x v) (hn:Znp x=some n) :
  (Builtin.len_ #[t] ty #[v]).run P w=.ok (.int .i64 n) w:=by
 unfold Znp at hn;split at hn
 ·cases hn;obtain⟨s,rfl,rfl⟩:=JL h;simp[Builtin.len_,run_underlying (Vg he),goInt]
 ·cases hn
theorem Zl4 {t:TypeId} (he:Wd P t=true) {lo aa : Option AV} {ab ad:Option Value} (hl:Zl1 Γ w I lo ab) (hh:Zl1 Γ w I aa ad)
  {x r:AV} {v:Value} (h:Rep Γ w I x v) (hp' : sliceS lo aa x=some r) :
  ∃ u,(Instr.sliceAt t v ab ad none).run P w=.ok u w∧Rep Γ w I r u:=by
 unfold sliceS at hp';split at hp'
 ·obtain⟨b,hb,hp'⟩:=Za hp';cases hp';obtain⟨s,rfl,rfl⟩:=JL h;have ae:s.data.toList.length=s.size:=rfl;rw[ae] at hb;obtain⟨hr,h2,h3⟩:=Jr (P:=P) (Kf _) hl hh hb false;refine⟨.string (s.extract b.1 b.2),?_,ZkN ?_⟩
  ·simp[Instr.sliceAt,Instr.slice,run_underlying (Vg he),hr]
  ·rw[ByteArray.data_extract,Array.toList_extract,List.extract_eq_take_drop,List.drop_take]
 ·cases hp'
theorem Zgp (k:IntKind) (n:Int):QV w I (.int k n) (.int k n):=by simp[QV,ZG]
theorem W3 (b:Bool):QV w I (.bool b) (.bool b):=by simp[QV,ZG]
theorem Zo7 {op:BinOp} {k:IntKind} {a b:Int} {d:D} (h:YT op k a b=some d) (t:TypeId):∃ u,(binOp op t (.int k a) (.int k b)).run P w=.ok u w∧QV w I d u:=by
 cases op<;>simp only[YT] at h<;>first
  | (cases h;exact⟨_,by simp[binOp,Op.intArith,Op.intBits,Op.intCmp],Zgp _ _⟩)
  | (cases h;exact⟨_,by simp[binOp,Op.intArith,Op.intBits,Op.intCmp],W3 _⟩)
  | (split at h
     ·cases h
     ·rename_i hb;cases h;exact⟨_,by simp[binOp,Op.intDiv,hb],Zgp _ _⟩)
  | (cases h;done)
theorem Zgq {op:BinOp} {k k' : IntKind} {a b:Int} {d:D} (h:Zdz op k a b=some d) (t:TypeId):∃ u,(binOp op t (.int k a) (.int k' b)).run P w=.ok u w∧QV w I d u:=by
 unfold Zdz at h;split at h
 ·cases h
 ·rename_i hb;cases op<;>simp only[] at h<;>first
   | (cases h;exact⟨_,by simp[binOp,Op.shift,hb],Zgp _ _⟩)
   | (cases h;done)
theorem Zo8 {op:BinOp} {x y:ByteArray} {d:D} (h:Zki op x.data.toList y.data.toList=some d) (t:TypeId):∃ u,(binOp op t (.string x) (.string y)).run P w=.ok u w∧QV w I d u:=by
 have e1:(x.toList==y.toList)=(x.data.toList==y.data.toList):=by rw[ByteArray.toList_eq,ByteArray.toList_eq]
 cases op<;>simp only[Zki] at h<;>first
  | (split at h
     ·rename_i hl;cases h;refine ⟨.string (x ++ y), ?_, ?_⟩
      ·have := run_string_add_sum (P := P) w x y (by
        have h1 : x.data.toList.length = x.size := rfl;have h2 : y.data.toList.length = y.size := rfl;simp only [Zlx] at hl; omega)
       simpa [binOp] using this
      ·simp [QV, ZG]
     ·cases h)
  | (cases h;exact⟨_,by simp[binOp,Op.stringOp,e1],W3 _⟩)
  | (cases h;done)
end
end Go.Abs
set_option linter.unusedVariables false
set_option linter.unusedSimpArgs false
namespace Go.Abs
open Go
def Zgr (P:Program) (o:Oper) (a:Act) (w:World) (u:Value) (w' : World):Prop:=
 (execOp a.eval o).run P w=.ok (.value u) w'∨((execOp a.eval o).run P w=.ok .skip w'∧u=undef)
theorem Zgr.wp {P:Program} {o:Oper} {a:Act} {w w' : World} {u:Value} (h:Zgr P o a w u w') {K:Act→World→Prop} {Q:Exit→Act→World→Prop} (hk:K (a.put o.dst u) w'):o.wp P a w K Q:=by
 unfold Oper.wp;rcases h with h | ⟨h,rfl⟩
 ·rw[h];exact hk
 ·rw[h];exact hk
section
variable {P:Program} {Γ:Gh} {w:World} {I:Nat→Prop} {F A:Nat→Prop} {hp:Hp} {sl:Sl} {a:Act}
def ceV (r:AV):Zb := { eff := { val:=r },gone:=[] }
def Q2 (P:Program) (Γ:Gh) (I:Nat→Prop) (o:Oper) (a:Act) (w:World) (ce:Zb):Prop:=
 ∃ u r,Zgr P o a w u w∧ce=ceV r∧Rep Γ w I r u
theorem ZX {v:AV} {ce:Zb} (h:Qg v=some ce):ce=ceV v:=by cases h;rfl
theorem opt1_some {v:Option AV} {ce:Zb} (h:Yj v=some ce):∃ r,v=some r∧ce=ceV r:=by
 obtain⟨r,h1,h2⟩:=Za h;exact⟨r,h1,ZX h2⟩
theorem ZdR {o:Oper} {x:Operand} {y:Opd} (ho:o.op=.move x∨o.op=.assign x) (hs:WV Γ w I sl a) (hc:ZI x=some y) {ce:Zb} (hv:Qg (evO sl y)=some ce):Q2 P Γ I o a w ce:=by
 refine⟨a.eval x,_,.inl ?_,ZX hv,hs.ev hc⟩;rcases ho with ho | ho<;>simp[execOp,ho]
theorem Zn4 {o:Oper} {x y z:Operand} {x' y' z' : Opd} (ho:o.op=.pick x y z) (hs:WV Γ w I sl a) (hx:ZI x=some x') (hy:ZI y=some y') (hz:ZI z=some z') {ce:Zb}
  (hv:ZaH (evO sl y') (evO sl z') (evO sl x')=some ce):Q2 P Γ I o a w ce:=by
 have h1:=hs.ev hx;unfold ZaH at hv;split at hv
 ·rename_i t aa;rw[aa] at h1;have h2:=Jo h1;split at hv
  ·rename_i ht;subst ht;exact⟨a.eval y,_,.inl (by simp[execOp,ho,h2,asBool]),ZX hv,hs.ev hy⟩
  ·rename_i ht;simp at ht;subst ht;exact⟨a.eval z,_,.inl (by simp[execOp,ho,h2,asBool]),ZX hv,hs.ev hz⟩
 ·cases hv
theorem Zn5 {o:Oper} {t:TypeId} {x:Operand} {y:Opd} {g:Bool} (ho:o.op=.load t x) (hs:WV Γ w I sl a) (hh:V9 Γ w I F A hp) (hg:Jq P t=some g) (hc:ZI x=some y) {ce:Zb}
  (hv:Yj (YV hp g (P.cellsOf t) (evO sl y))=some ce):Q2 P Γ I o a w ce:=by
 obtain⟨r,h1,h2⟩:=opt1_some hv;obtain⟨u,h3,h4⟩:=ZkQ (P:=P) hg hh (hs.ev hc) h1;exact⟨u,r,.inl (by simp[execOp,ho,h3]),h2,h4⟩
theorem ZhY {o:Oper} {x:Operand} {y:Opd} (ho:o.op=.nilCheck x) (hs:WV Γ w I sl a) (hc:ZI x=some y) {ce:Zb} (hv:Wc (evO sl y)=some ce):Q2 P Γ I o a w ce:=by
 have h1:=hs.ev hc;unfold Wc at hv;split at hv
 ·rename_i h;rw[h] at h1;obtain⟨b,h2,h3⟩:=h1;exact⟨_,_,.inl (by simp[execOp,ho,h3]),ZX hv,b,h2,rfl⟩
 ·rename_i h;rw[h] at h1;obtain⟨b,o1,n,c,h2,h3,h4⟩:=h1;exact⟨_,_,.inl (by simp[execOp,ho,h4]),ZX hv,b,o1,n,c,h2,h3,rfl⟩
 ·rename_i h;rw[h] at h1;obtain⟨b,o',vs,h2,h3⟩:=h1;exact⟨_,_,.inl (by simp[execOp,ho,h2]),ZX hv,b,o',vs,rfl,h3⟩
 ·rename_i h;rw[h] at h1;obtain⟨us,h2,h3⟩:=h1;exact⟨_,_,.inl (by simp[execOp,ho,h2]),ZX hv,us,rfl,h3⟩
 ·cases hv
theorem ZeL {op:BinOp} {t:TypeId} {x y:Operand} {u v:Value} (hu:∀ c,u≠.agg c) (hn:u≠.nilIface):(eqGuard op t x y u v).run P w=.ok () w:=by
 unfold eqGuard;cases op<;>simp<;>(cases u<;>simp at hu hn ⊢)
theorem ZjR {t:TypeId} (h:P.underlying t=some .bool) (x y:Bool):(binOp .eql t (.bool x) (.bool y)).run P w=.ok (.bool (x==y)) w:=by
 have h1:binOp .eql t (.bool x) (.bool y)=(do let r ← Op.equalIn (9999+1) t (.bool x) (.bool y);pure (.bool r)):=rfl;rw[h1,Sem.run_bind,run_equalIn_bool' w 9999 t x y h];rfl
theorem ZjS {t:TypeId} (h:P.underlying t=some .bool) (x y:Bool):(binOp .neq t (.bool x) (.bool y)).run P w=.ok (.bool (!(x==y))) w:=by
 have h1:binOp .neq t (.bool x) (.bool y)=(do let r ← Op.equalIn (9999+1) t (.bool x) (.bool y);pure (.bool (!r))):=rfl;rw[h1,Sem.run_bind,run_equalIn_bool' w 9999 t x y h];rfl
theorem ZjT {t:TypeId} (h:Zbn P t=true):P.underlying t=some .bool:=by
 unfold Zbn at h;split at h
 ·assumption
 ·cases h
theorem Zo9 {o:Oper} {op:BinOp} {t ab : TypeId} {x y:Operand} {x' y' : Opd} (ho:o.op=.binOp op t x y ab) (hs:WV Γ w I sl a) (hx:ZI x=some x') (hy:ZI y=some y') {ce:Zb}
  (hv:ZhX op (Zbn P t) (evO sl x') (evO sl y')=some ce):Q2 P Γ I o a w ce:=by
 have h1:=hs.ev hx;have h2:=hs.ev hy;have aa:∀ {d:D} {u:Value},(∀ c,a.eval x≠.agg c)→a.eval x≠.nilIface→(binOp op t (a.eval x) (a.eval y)).run P w=.ok u w→QV w I d u→ce=ceV (.d d)→Q2 P Γ I o a w ce:=
  fun h3 h4 h5 h6 h7=>⟨_,_,.inl (by simp[execOp,ho,ZeL h3 h4,h5]),h7,QB.2 h6⟩
 unfold ZhX at hv;split at hv
 ·rename_i p q hp' hq;rw[hp'] at h1;rw[hq] at h2;have e1:=Jo h1;have e2:=Jo h2;split at hv
  ·rename_i hb;have hu:=ZjT hb;obtain⟨r,h3,h4⟩:=opt1_some hv;unfold Zih at h3;split at h3
   ·cases h3;exact aa (by simp[e1]) (by simp[e1]) (by rw[e1,e2];exact ZjR hu _ _) (W3 _) h4
   ·cases h3;exact aa (by simp[e1]) (by simp[e1]) (by rw[e1,e2];exact ZjS hu _ _) (W3 _) h4
   ·cases h3
  ·cases hv
 ·obtain⟨r,h3,h4⟩:=opt1_some hv;unfold vbin at h3;split at h3
  ·rename_i k p k' q hp' hq;rw[hp'] at h1;rw[hq] at h2;have e1:=WW h1;have e2:=WW h2;unfold Vv at h3;split at h3
   ·obtain⟨d,h5,h6⟩:=Za h3;cases h6;obtain⟨u,h7,h8⟩:=Zgq (P:=P) (w:=w) (I:=I) (k':=k') h5 t;exact aa (by simp[e1]) (by simp[e1]) (by rw[e1,e2];exact h7) h8 h4
   ·obtain⟨d,h5,h6⟩:=Za h3;cases h6;obtain⟨u,h7,h8⟩:=Zgq (P:=P) (w:=w) (I:=I) (k':=k') h5 t;exact aa (by simp[e1]) (by simp[e1]) (by rw[e1,e2];exact h7) h8 h4
   ·split at h3
    ·rename_i hk;subst hk;obtain⟨d,h5,h6⟩:=Za h3;cases h6;obtain⟨u,h7,h8⟩:=Zo7 (P:=P) (w:=w) (I:=I) h5 t;exact aa (by simp[e1]) (by simp[e1]) (by rw[e1,e2];exact h7) h8 h4
    ·cases h3
  ·rename_i p q hp' hq;rw[hp'] at h1;rw[hq] at h2;obtain⟨s1,e1,rfl⟩:=JL h1;obtain⟨s2,e2,rfl⟩:=JL h2;obtain⟨d,h5,h6⟩:=Za h3;cases h6;obtain⟨u,h7,h8⟩:=Zo8 (P:=P) (w:=w) (I:=I) h5 t;exact aa (by simp[e1]) (by simp[e1]) (by rw[e1,e2];exact h7) h8 h4
  ·cases h3
theorem Zqy {o:Oper} {op:UnOp} {t:TypeId} {x:Operand} {x' : Opd} (ho:o.op=.unOp op t x) (hs:WV Γ w I sl a) (hx:ZI x=some x') {ce:Zb}
  (hv:Yj (vun op (evO sl x'))=some ce):Q2 P Γ I o a w ce:=by
 have h1:=hs.ev hx;obtain⟨r,h3,h4⟩:=opt1_some hv;unfold vun at h3;split at h3
 ·rename_i hq;rw[hq] at h1;have e1:=WW h1;unfold neg1 at h3;split at h3
  ·cases h3;exact⟨_,_,.inl (by simp[execOp,ho,e1,Op.unary,Op.intArith]),h4,W9 _ _⟩
  ·cases h3
 ·rename_i hq;rw[hq] at h1;have e1:=Jo h1;unfold not1 at h3;split at h3
  ·cases h3;exact⟨_,_,.inl (by simp[execOp,ho,e1,Op.unary]),h4,ZnQ _⟩
  ·cases h3
 ·cases h3
theorem Zn6 {o:Oper} {s d:TypeId} {x:Operand} {x' : Opd} {c:COp} (ho:o.op=.convert s d x) (hs:WV Γ w I sl a) (hx:ZI x=some x') (hc:ZmZ x' (Wd P s) (Wd P d) (Zn1 P s) (Zn1 P d)=some c)
  {C:Orc} {M:Zg} {base:Nat} {ce:Zb} (hv:vop C M sl hp base c=some ce):Q2 P Γ I o a w ce:=by
 have h1:=hs.ev hx;unfold ZmZ at hc;split at hc
 ·rename_i k k' hk aa;cases hc;simp only[vop,Abs.convI] at hv;split at hv
  ·rename_i hq;rw[hq] at h1;have e1:=WW h1;exact⟨_,_,.inl (by simp[execOp,ho,e1,convert,run_underlying (ZiC hk),run_underlying (ZiC aa),Conv.intToInt]),ZX hv,W9 _ _⟩
  ·cases hv
 ·split at hc
  ·rename_i hh;cases hc;simp at hh;simp only[vop,Abs.convS] at hv;split at hv
   ·rename_i hq;rw[hq] at h1;obtain⟨s1,e1,e2⟩:=JL h1;exact⟨_,_,.inl (by simp[execOp,ho,e1,convert,run_underlying (Vg hh.1),run_underlying (Vg hh.2)]),ZX hv,ZkN e2⟩
   ·cases hv
  ·cases hc
theorem Zn7 {o:Oper} {t:TypeId} {f:Nat} {x:Operand} {x' : Opd} {q:Nat×TypeId} {g:Bool} (ho:o.op=.field t x f) (hs:WV Γ w I sl a) (hq:JR P t f=some q) (hg:Jq P q.2=some g) (hx:ZI x=some x')
  {ce:Zb} (hv:Yj (ZcR g (P.cellsOf q.2) q.1 (evO sl x'))=some ce):Q2 P Γ I o a w ce:=by
 obtain⟨r,h3,h4⟩:=opt1_some hv;obtain⟨cs,u,h5,h6,h7⟩:=ZkP (P:=P) hg (hs.ev hx) h3;obtain⟨fs,y,h8,h9,aa,ab,ad⟩:=Zax hq;refine⟨u,r,.inl ?_,h4,h7⟩;simp[execOp,ho,Instr.field,run_underlying h8,h9,h5,asAgg,aa,ab,h6]
theorem Zl5 {o:Oper} {t:TypeId} {f:Nat} {x:Operand} {x' : Opd} {q:Nat×TypeId} (ho:o.op=.fieldAddr t x f) (hs:WV Γ w I sl a) (hq:JR P t f=some q) (hx:ZI x=some x')
  {ce:Zb} (hv:Ys q.1 (evO sl x')=some ce):Q2 P Γ I o a w ce:=by
 obtain⟨u,r,h1,h2,h3⟩:=ZnS (P:=P) hq (hs.ev hx) hv;exact⟨u,r,.inl (by simp[execOp,ho,h1]),h2,h3⟩
theorem Zpa {o:Oper} {i:Nat} {x:Operand} {x' : Opd} (ho:o.op=.extract x i) (hs:WV Γ w I sl a) (hx:ZI x=some x')
  {ce:Zb} (hv:ZkW i (evO sl x')=some ce):Q2 P Γ I o a w ce:=by
 have h1:=hs.ev hx;unfold ZkW at hv;split at hv
 ·rename_i vs hq;rw[hq] at h1;obtain⟨us,h2,h3⟩:=h1;obtain⟨r,h4,h5⟩:=opt1_some hv;obtain⟨u,h6,h7⟩:=h3.get i r h4;have aa : us[i]?=some u:=by simpa using h6
  exact⟨u,r,.inl (by simp[execOp,ho,Instr.extract,h2,aa]),h5,h7.rep⟩
 ·cases hv
theorem Zgs {x y:AV} {u v:Value} {ce:Zb} (hx:Rep Γ w I x u) (hy:Rep Γ w I y v) (at_:Array TypeId) (ty:TypeId) :
  (ZeG x y=some ce→∃ z r,(Builtin.min_ at_ ty #[u,v]).run P w=.ok z w∧ce=ceV r∧Rep Γ w I r z) ∧
  (ZeH x y=some ce→∃ z r,(Builtin.max_ at_ ty #[u,v]).run P w=.ok z w∧ce=ceV r∧Rep Γ w I r z):=by
 constructor
 ·intro h;unfold ZeG at h;split at h
  ·split at h
   ·rename_i hk;subst hk;rw[WW hx,WW hy];exact⟨_,_,by simp[Builtin.min_,Builtin.min2];rfl,ZX h,W9 _ _⟩
   ·cases h
  ·cases h
 ·intro h;unfold ZeH at h;split at h
  ·split at h
   ·rename_i hk;subst hk;rw[WW hx,WW hy];exact⟨_,_,by simp[Builtin.max_,Builtin.max2];rfl,ZX h,W9 _ _⟩
   ·cases h
  ·cases h
theorem Zl6 {o:Oper} {t:TypeId} {x i:Operand} {x' i' : Opd} {c:COp} (ho:o.op=.index t x i) (hs:WV Γ w I sl a) (hx:ZI x=some x') (hi:ZI i=some i')
  (hc:ZjN P x' i' (Wd P t) (Zcb P t)=some c) {C:Orc} {M:Zg} {base:Nat} {ce:Zb} (hv:vop C M sl hp base c=some ce):Q2 P Γ I o a w ce:=by
 have h1:=hs.ev hx;have h2:=hs.ev hi;unfold ZjN at hc;split at hc
 ·rename_i aa;cases hc;simp only[vop] at hv;obtain⟨n,hn,hv⟩:=Za hv;obtain⟨k,e2⟩:=Yb hn h2;unfold ZlW at hv;split at hv
  ·rename_i s hq;rw[hq] at h1;obtain⟨s1,e1,rfl⟩:=JL h1;unfold ZkV at hv;split at hv
   ·rename_i h0;obtain⟨b,hb,hv⟩:=Za hv;have ab : s1[n.toNat]?=some b:=by
     have:s1.data[n.toNat]?=some b:=by simpa using hb
     exact this
    exact⟨_,_,.inl (by simp[execOp,ho,e1,e2,Instr.index,asIntOf,run_underlying (Vg aa),h0,ab]),ZX hv,W9 _ _⟩
   ·cases hv
  ·cases hv
 ·obtain⟨q,hq,hc⟩:=Za hc;obtain⟨g,hg,hc⟩:=Za hc;cases hc;simp only[vop] at hv;obtain⟨n,hn,hv⟩:=Za hv;obtain⟨k,e2⟩:=Yb hn h2;unfold Zn0 at hv;split at hv
  ·rename_i hb;obtain⟨r,h3,h4⟩:=opt1_some hv;obtain⟨cs,u,h5,h6,h7⟩:=ZkP (P:=P) hg h1 h3;obtain⟨ii,ad⟩:=Zbi hg;exact⟨u,r,.inl (by simp[execOp,ho,h5,e2,Instr.index,asIntOf,run_underlying (ZiD hq),hb.1,hb.2,Qm ad,h6]),h4,h7⟩
  ·cases hv
end
end Go.Abs
