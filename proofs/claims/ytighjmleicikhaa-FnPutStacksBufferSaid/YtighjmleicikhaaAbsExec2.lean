/- Own text. -/
import Derived.Test.YtighjmleicikhaaAbsExec
set_option linter.unusedVariables false
set_option linter.unusedSimpArgs false
namespace Go.Abs
open Go
section
variable {P:Program} {Γ:Gh} {w:World} {I:Nat→Prop} {F A:Nat→Prop} {hp:Hp}
def Zjx (Γ:Gh) (w:World) (I:Nat→Prop):Option AV→Option Value→Prop
 | none,none=>True
 | some x,some v=>Rep Γ w I x v
 | _,_=>False
theorem V7.evM {sl:Sl} {a:Act} (h:V7 Γ w I sl a) {x:Option Operand} {y:Option Opd} (hc:cOO x=some y):Zjx Γ w I (evM sl y) (x.map a.eval):=by
 cases x with
 | none=>simp only[cOO] at hc;cases hc;exact trivial
 | some x=>
  simp only[cOO] at hc;obtain⟨y',h1,hc⟩:=Za hc;cases hc;exact h.ev h1
theorem ZmE {m n c:Nat} (ab:m≤c) {x:AV} {v:Value} (h:Rep Γ w I x v) (hb:bd m x=some n) (aa:BoundsCode) :
  (Instr.sliceBound v c aa).run P w=.ok n w∧n≤m:=by
 unfold bd at hb;obtain⟨i,hi,hb⟩:=Za hb;obtain⟨k,rfl⟩:=XH hi h;split at hb
 ·rename_i hc;cases hb;refine⟨run_sliceBound w k i c aa hc.1 (by omega),by omega⟩
 ·cases hb
theorem Ur {len ae:Nat} (af:len≤ae) {lo hi:Option AV} {ab ad:Option Value} (hl:Zjx Γ w I lo ab) (hh:Zjx Γ w I hi ad) {b:Nat×Nat} (hb:Zhi len lo hi=some b) (aa:Bool) :
  (Instr.sliceBounds aa len ae ab ad none).run P w=.ok (b.1,b.2,ae) w∧b.1≤b.2∧b.2≤len:=by
 unfold Zhi at hb;obtain⟨h,h1,hb⟩:=Za hb;obtain⟨l,h2,hb⟩:=Za hb;cases hb;have hH:(match ad with | some v=>Instr.sliceBound v ae (if aa then .sliceAcap else .sliceAlen) | none=>pure len:Sem Nat).run P w=.ok h w∧h≤len:=by
  cases hi with
  | none=>cases ad with
   | none=>simp only[hiOf] at h1;cases h1;exact⟨rfl,Kg _⟩
   | some v=>exact hh.elim
  | some x=>cases ad with
   | none=>exact hh.elim
   | some v=>exact ZmE af hh h1 _
 have hL:(match ab with | some v=>Instr.sliceBound v h .sliceB | none=>pure 0:Sem Nat).run P w=.ok l w∧l≤h:=by
  cases lo with
  | none=>cases ab with
   | none=>simp only[loOf] at h2;cases h2;exact⟨rfl,Nat.zero_le _⟩
   | some v=>exact hl.elim
  | some x=>cases ab with
   | none=>exact hl.elim
   | some v=>exact ZmE (Kg _) hl h2 _
 refine⟨?_,hL.2,hH.2⟩;unfold Instr.sliceBounds;cases ad<;>cases ab<;>simp only[] at hH hL<;>simp[hH.1,hL.1]<;>(simp at hH hL;simp[hH,hL])
theorem Zhf (a:Addr) (x y:Nat):(a.add x).add y=a.add (x+y):=by
 unfold Addr.add;by_cases hx:x=0
 ·simp[hx]
 ·by_cases hy:y=0
  ·simp[hx,hy]
  ·have:x+y≠0:=by omega
   simp[hx,hy,this,KC]
theorem W4 (a:Addr):a.add 0=a:=by simp[Addr.add]
theorem ZlB {t e:TypeId} (he:QN P t=some e) (hi:∃ i,P.info? e=some i) (ho:Vk Γ w I F A hp) {lo ak : Option AV} {ad aa:Option Value} (hl:Zjx Γ w I lo ad) (hh:Zjx Γ w I ak aa)
  {x r:AV} {v:Value} (h:Rep Γ w I x v) (hp' : XB hp (P.cellsOf e) lo ak x=some r) :
  ∃ u,(Instr.sliceAt t v ad aa none).run P w=.ok u w∧Rep Γ w I r u:=by
 obtain⟨i,hi⟩:=hi;have hu:=Qd he;have ae:∀ (a:Option Addr) (n c:Nat) (b:Nat×Nat),(Instr.sliceBounds true n c ad aa none).run P w=.ok (b.1,b.2,c) w →
   (Instr.sliceAt t (.slice a n c) ad aa none).run P w=.ok (.slice (if c=b.1 then a else a.map (·.add (b.1*P.cellsOf e))) (b.2-b.1) (c-b.1)) w:=by
  intro a n c b hb;simp[Instr.sliceAt,Instr.slice,run_underlying hu,hb,Qe hi]
 unfold XB at hp';split at hp'
 ·rename_i xs;split at hp'
  ·rename_i al;obtain⟨b,hb,hp'⟩:=Za hp';cases hp';have:=QF.1 h;simp only[QL,Zx] at this;obtain⟨a,c,hv,hc,h1⟩:=this;simp at hv;subst hv;obtain⟨hr,h2,h3⟩:=Ur (P:=P) hc hl hh hb true;refine⟨_,ae _ _ _ _ hr,QF.2 ?_⟩;have am:((xs.take b.2).drop b.1).length=b.2-b.1:=by simp;omega
   refine⟨_,c-b.1,by rw[am],by omega,?_⟩;by_cases hz:b.2=b.1
   ·left;exact Kf (by omega)
   ·right
    rcases h1 with h1 | ⟨bb,o,sz,rfl,hI,h0,an⟩
    ·subst h1;simp at h3;omega
    ·have ar:¬c=b.1:=by omega
     obtain⟨y,hy⟩:∃ y,xs[0]?=some y:=⟨_,Kj (by omega)⟩
     have af:sz=P.cellsOf e:=by
      obtain⟨vs,h4,h5,h6⟩:=Qy.1 an 0 y hy;rw[← h4,h6.length];exact al y (Kl hy)
     subst af;refine⟨bb,o+b.1*P.cellsOf e,P.cellsOf e,by simp[ar,XW],hI,h0,?_⟩;rw[Qy] at an ⊢;intro j z ah;rw[K1,KU] at ah;split at ah
     ·obtain⟨vs,h4,h5,h6⟩:=an _ z ah;exact⟨vs,h4,by rw[KA,← KC] at h5;exact h5,h6⟩
     ·cases ah
  ·cases hp'
 ·obtain⟨b,hb,hp'⟩:=Za hp';cases hp';obtain⟨a,rfl⟩:=h;obtain⟨hr,h2,h3⟩:=Ur (P:=P) (Kg 0) hl hh hb true;have au:b.1=0:=by omega
  have ab:b.2=0:=by omega
  exact⟨_,ae _ _ _ _ hr,a,by simp[au,ab]⟩
 ·rename_i id;obtain⟨a,n,c,sz,hb,rfl⟩:=h;unfold Wp at hp';split at hp'
  ·rename_i av xs ex fz ao;split at hp'
   ·rename_i af;obtain⟨a',n',c',ag,hn,ai⟩:=ho id _ ao;rw[hb] at ag;cases ag;subst af;have aq:n≤c:=by
     rcases ai with ai | ⟨g,cur,e',_,_,_,ai,_⟩<;>omega
    unfold Zix at hp';split at hp'
    ·cases hp';cases ad with
     | some v=>exact hl.elim
     | none=>cases aa with
      | some v=>exact hh.elim
      | none=>
       refine⟨_,ae _ _ _ (0,n) (by simp[Instr.sliceBounds]),a,n,c,_,hb,?_⟩;simp[W4]
    ·obtain⟨b,ab,hp'⟩:=Za hp';cases hp';rw[← hn] at ab;obtain⟨hr,h2,h3⟩:=Ur (P:=P) aq hl hh ab true;refine⟨_,ae _ _ _ _ hr,a,n,c,_,_,hb,by omega,aq,rfl,?_,?_⟩
     ·intro h0;simp[h0,W4]
     ·by_cases aj:c=b.1
      ·right;exact aj
      ·left;simp[aj]
   ·cases hp'
  ·cases hp'
 ·rename_i id off n;obtain⟨a0,m,c,sz,a,hb,h1,h2,rfl,h3,h4⟩:=h;unfold Vl at hp';split at hp'
  ·rename_i av xs ex fz ao;split at hp'
   ·rename_i af;obtain⟨b,ab,hp'⟩:=Za hp';cases hp';obtain⟨a',n',c',ag,hn,ai⟩:=ho id _ ao;rw[hb] at ag;cases ag;subst af;have aw:(Instr.sliceBounds true n (c-off) ad aa none).run P w=.ok (b.1,b.2,c-off) w∧b.1≤b.2∧off+b.2≤m:=by
     cases ak with
     | none=>
      obtain⟨h7,h8,h9⟩:=Ur (P:=P) (show n≤c-off by omega) hl hh ab true;exact⟨h7,h8,by omega⟩
     | some hv=>
      cases aa with
      | none=>exact hh.elim
      | some vh=>
       obtain⟨h7,h8,h9⟩:=Ur (P:=P) (show xs.length-off≤c-off by omega) hl hh ab true;exact⟨h7,h8,by omega⟩
    obtain⟨hr,h5,h6⟩:=aw;refine⟨_,ae _ _ _ _ hr,a0,m,c,_,_,hb,by omega,h2,by rw[Nat.sub_sub],?_,?_⟩
    ·intro h0;have ap:off=0:=by omega
     have ax:b.1=0:=by omega
     simp[ax,W4,h3 ap]
    ·by_cases aj:c-off=b.1
     ·right;omega
     ·left
      simp only[aj,Kh];rcases h4 with h4 | h4
      ·subst h4;cases a0<;>simp[Zhf,KA]
      ·omega
   ·cases hp'
  ·cases hp'
 ·cases hp'
theorem ZaY (ho:Vk Γ w I F A hp) {x:AV} {v:Value} {n:Nat} (h:Rep Γ w I x v) (hn:W2 hp x=some n):∃ a c,v=.slice a n c∧n≤c:=by
 unfold W2 at hn;split at hn
 ·cases hn;have:=QF.1 h;simp only[QL,Zx] at this;obtain⟨a,c,hv,hc,h1⟩:=this;simp at hv;exact⟨a,c,hv,hc⟩
 ·cases hn;obtain⟨a,rfl⟩:=h;exact⟨a,0,rfl,Kg _⟩
 ·rename_i id;obtain⟨xs,hx,hn⟩:=Za hn;cases hn;obtain⟨a,n,c,sz,hb,rfl⟩:=h;unfold X7 at hx;split at hx
  ·rename_i ad;cases hx;obtain⟨a',n',c',ab,hn,aa⟩:=ho id _ ad;rw[hb] at ab;cases ab;refine⟨a,c,by rw[hn],?_⟩;rcases aa with aa | ⟨g,cur,e',_,_,_,aa,_⟩<;>omega
  ·rename_i ad;cases hx;obtain⟨a',n',c',ab,⟨hn,aa⟩,_⟩:=ho id _ ad;rw[hb] at ab;cases ab;refine⟨a,c,by rw[hn],?_⟩;rcases aa with aa | ⟨g,cur,e',_,_,_,_,aa,_⟩<;>omega
  ·cases hx
 ·cases hn;obtain⟨a0,m,c,sz,a,hb,h1,h2,rfl,_⟩:=h;exact⟨a,_,rfl,by omega⟩
 ·cases hn
theorem Zjy {t e:TypeId} (he:QN P t=some e) (hi:∃ i,P.info? e=some i) (ho:Vk Γ w I F A hp) {x y z r:AV} {v vh vm:Value} (h:Rep Γ w I x v) (hh:Rep Γ w I y vh) (hm:Rep Γ w I z vm)
  (hp' : slice0 hp x (idx y) (idx z)=some r):∃ u,(Instr.sliceAt t v none (some vh) (some vm)).run P w=.ok u w∧Rep Γ w I r u:=by
 obtain⟨i,hi⟩:=hi;unfold slice0 at hp';split at hp'
 ·rename_i h1 h2;obtain⟨n,hn,hp'⟩:=Za hp';cases hp';obtain⟨a,c,rfl,hc⟩:=ZaY ho h hn;obtain⟨k1,rfl⟩:=XH h1 hh;obtain⟨k2,rfl⟩:=XH h2 hm;refine⟨.slice a 0 0,?_,a,rfl⟩;simp[Instr.sliceAt,Instr.slice,run_underlying (Qd he),Instr.sliceBounds,Instr.sliceBound,asIntOf,Qe hi]
 ·cases hp'
theorem Zjz {t e:TypeId} (he:QN P t=some e) (hi:∃ i,P.info? e=some i) (ho:Vk Γ w I F A hp) {x y z u r:AV} {v vl vh vm:Value} (h:Rep Γ w I x v) (hl:Rep Γ w I y vl) (hh:Rep Γ w I z vh) (hm:Rep Γ w I u vm)
  (hp' : slice3 hp x (idx y) (idx z) (idx u)=some r):∃ q,(Instr.sliceAt t v (some vl) (some vh) (some vm)).run P w=.ok q w∧Rep Γ w I r q:=by
 obtain⟨i,hi⟩:=hi;unfold slice3 at hp';obtain⟨l,h1,hp'⟩:=Za hp';obtain⟨hI,h2,hp'⟩:=Za hp';obtain⟨m,h3,hp'⟩:=Za hp';obtain⟨n,h4,hp'⟩:=Za hp';split at hp'
 ·rename_i hc;cases hp';obtain⟨c1,c2,c3,c4⟩:=hc;obtain⟨a,c,rfl,hc⟩:=ZaY ho h h4;obtain⟨k1,rfl⟩:=XH h1 hl;obtain⟨k2,rfl⟩:=XH h2 hh;obtain⟨k3,rfl⟩:=XH h3 hm;have e1:=run_sliceBound (P:=P) w k3 m c .slice3Acap (by omega) (by omega);have e2:=run_sliceBound (P:=P) w k2 hI m.toNat .slice3B (by omega) (by omega);have e3:=run_sliceBound (P:=P) w k1 l hI.toNat .slice3C (by omega) (by omega);exact⟨_,by simp[Instr.sliceAt,Instr.slice,run_underlying (Qd he),Instr.sliceBounds,e1,e2,e3,Qe hi];rfl,trivial⟩
 ·cases hp'
theorem ZnP {t e ty:TypeId} (he:QN P t=some e) (ho:Vk Γ w I F A hp) {x:AV} {v:Value} {n:Nat} (h:Rep Γ w I x v) (hn:W2 hp x=some n) :
  (Builtin.len_ #[t] ty #[v]).run P w=.ok (.int .i64 n) w:=by
 obtain⟨a,c,rfl,hc⟩:=ZaY ho h hn;simp[Builtin.len_,run_underlying (Qd he),goInt]
theorem ZmF {t ty:TypeId} (he:Vn P t=true) {x:AV} {v:Value} {n:Nat} (h:Rep Γ w I x v) (hn:Zk4 x=some n) :
  (Builtin.len_ #[t] ty #[v]).run P w=.ok (.int .i64 n) w:=by
 unfold Zk4 at hn;split at hn
 ·cases hn;obtain⟨s,rfl,rfl⟩:=UK h;simp[Builtin.len_,run_underlying (YE he),goInt]
 ·cases hn
theorem ZjA {t:TypeId} (he:Vn P t=true) {lo aa : Option AV} {ab ad:Option Value} (hl:Zjx Γ w I lo ab) (hh:Zjx Γ w I aa ad)
  {x r:AV} {v:Value} (h:Rep Γ w I x v) (hp' : sliceS lo aa x=some r) :
  ∃ u,(Instr.sliceAt t v ab ad none).run P w=.ok u w∧Rep Γ w I r u:=by
 unfold sliceS at hp';split at hp'
 ·obtain⟨b,hb,hp'⟩:=Za hp';cases hp';obtain⟨s,rfl,rfl⟩:=UK h;have ae:s.data.toList.length=s.size:=rfl;rw[ae] at hb;obtain⟨hr,h2,h3⟩:=Ur (P:=P) (Kg _) hl hh hb false;refine⟨.string (s.extract b.1 b.2),?_,Zir ?_⟩
  ·simp[Instr.sliceAt,Instr.slice,run_underlying (YE he),hr]
  ·rw[ByteArray.data_extract,Array.toList_extract,List.extract_eq_take_drop,List.drop_take]
 ·cases hp'
theorem Zev (k:IntKind) (n:Int):QL w I (.int k n) (.int k n):=by simp[QL,Zx]
theorem We (b:Bool):QL w I (.bool b) (.bool b):=by simp[QL,Zx]
theorem ZmG {op:BinOp} {k:IntKind} {a b:Int} {d:D} (h:Yl op k a b=some d) (t:TypeId):∃ u,(binOp op t (.int k a) (.int k b)).run P w=.ok u w∧QL w I d u:=by
 cases op<;>simp only[Yl] at h<;>first
  | (cases h;exact⟨_,by simp[binOp,Op.intArith,Op.intBits,Op.intCmp],Zev _ _⟩)
  | (cases h;exact⟨_,by simp[binOp,Op.intArith,Op.intBits,Op.intCmp],We _⟩)
  | (split at h
     ·cases h
     ·rename_i hb;cases h;exact⟨_,by simp[binOp,Op.intDiv,hb],Zev _ _⟩)
  | (cases h;done)
theorem Zew {op:BinOp} {k k' : IntKind} {a b:Int} {d:D} (h:Zca op k a b=some d) (t:TypeId):∃ u,(binOp op t (.int k a) (.int k' b)).run P w=.ok u w∧QL w I d u:=by
 unfold Zca at h;split at h
 ·cases h
 ·rename_i hb;cases op<;>simp only[] at h<;>first
   | (cases h;exact⟨_,by simp[binOp,Op.shift,hb],Zev _ _⟩)
   | (cases h;done)
theorem ZmH {op:BinOp} {x y:ByteArray} {d:D} (h:ZhX op x.data.toList y.data.toList=some d) (t:TypeId):∃ u,(binOp op t (.string x) (.string y)).run P w=.ok u w∧QL w I d u:=by
 have e1:(x.toList==y.toList)=(x.data.toList==y.data.toList):=by rw[ByteArray.toList_eq,ByteArray.toList_eq]
 cases op<;>simp only[ZhX] at h<;>first
  | (split at h
     ·rename_i hl;cases h;refine ⟨.string (x ++ y), ?_, ?_⟩
      ·have := run_string_add_sum (P := P) w x y (by
        have h1 : x.data.toList.length = x.size := rfl;have h2 : y.data.toList.length = y.size := rfl;simp only [Zja] at hl; omega)
       simpa [binOp] using this
      ·simp [QL, Zx]
     ·cases h)
  | (cases h;exact⟨_,by simp[binOp,Op.stringOp,e1],We _⟩)
  | (cases h;done)
end
end Go.Abs
