/- Own text. -/
import Derived.Test.YtefabmohhbhlfaaAbsExec
set_option linter.unusedVariables false
set_option linter.unusedSimpArgs false
namespace Go.Abs
open Go
section
variable {P:Program} {Γ:Gh} {w:World} {I:Nat→Prop} {F A:Nat→Prop} {hp:Hp}
def Zno (Γ:Gh) (w:World) (I:Nat→Prop):Option AV→Option Value→Prop
 | none,none=>True
 | some x,some v=>Rep Γ w I x v
 | _,_=>False
theorem Up.evM {sl:Sl} {a:Act} (h:Up Γ w I sl a) {x:Option Operand} {y:Option Opd} (hc:cOO x=some y):Zno Γ w I (evM sl y) (x.map a.eval):=by
 cases x with
 | none=>simp only[cOO] at hc;cases hc;exact trivial
 | some x=>
  simp only[cOO] at hc;obtain⟨y',h1,hc⟩:=Za hc;cases hc;exact h.ev h1
theorem ZqI {m n c:Nat} (ab:m≤c) {x:AV} {v:Value} (h:Rep Γ w I x v) (hb:bd m x=some n) (aa:BoundsCode) :
  (Instr.sliceBound v c aa).run P w=.ok n w∧n≤m:=by
 unfold bd at hb;obtain⟨i,hi,hb⟩:=Za hb;obtain⟨k,rfl⟩:=Yr hi h;split at hb
 ·rename_i hc;cases hb;refine⟨run_sliceBound w k i c aa hc.1 (by omega),by omega⟩
 ·cases hb
theorem J0 {len ae:Nat} (af:len≤ae) {lo hi:Option AV} {ab ad:Option Value} (hl:Zno Γ w I lo ab) (hh:Zno Γ w I hi ad) {b:Nat×Nat} (hb:ZkI len lo hi=some b) (aa:Bool) :
  (Instr.sliceBounds aa len ae ab ad none).run P w=.ok (b.1,b.2,ae) w∧b.1≤b.2∧b.2≤len:=by
 unfold ZkI at hb;obtain⟨h,h1,hb⟩:=Za hb;obtain⟨l,h2,hb⟩:=Za hb;cases hb;have hH:(match ad with | some v=>Instr.sliceBound v ae (if aa then .sliceAcap else .sliceAlen) | none=>pure len:Sem Nat).run P w=.ok h w∧h≤len:=by
  cases hi with
  | none=>cases ad with
   | none=>simp only[hiOf] at h1;cases h1;exact⟨rfl,Kh _⟩
   | some v=>exact hh.elim
  | some x=>cases ad with
   | none=>exact hh.elim
   | some v=>exact ZqI af hh h1 _
 have hL:(match ab with | some v=>Instr.sliceBound v h .sliceB | none=>pure 0:Sem Nat).run P w=.ok l w∧l≤h:=by
  cases lo with
  | none=>cases ab with
   | none=>simp only[loOf] at h2;cases h2;exact⟨rfl,Nat.zero_le _⟩
   | some v=>exact hl.elim
  | some x=>cases ab with
   | none=>exact hl.elim
   | some v=>exact ZqI (Kh _) hl h2 _
 refine⟨?_,hL.2,hH.2⟩;unfold Instr.sliceBounds;cases ad<;>cases ab<;>simp only[] at hH hL<;>simp[hH.1,hL.1]<;>(simp at hH hL;simp[hH,hL])
theorem ZkN (a:Addr) (x y:Nat):(a.add x).add y=a.add (x+y):=by
 unfold Addr.add;by_cases hx:x=0
 ·simp[hx]
 ·by_cases hy:y=0
  ·simp[hx,hy]
  ·have:x+y≠0:=by omega
   simp[hx,hy,this,KI]
theorem JF (a:Addr):a.add 0=a:=by simp[Addr.add]
theorem ZpH {t e:TypeId} (he:Q8 P t=some e) (hi:∃ i,P.info? e=some i) (ho:Wz Γ w I F A hp) {lo aj : Option AV} {ab aa:Option Value} (hl:Zno Γ w I lo ab) (hh:Zno Γ w I aj aa)
  {x r:AV} {v:Value} (h:Rep Γ w I x v) (hp' : Yl hp (P.cellsOf e) lo aj x=some r) :
  ∃ u,(Instr.sliceAt t v ab aa none).run P w=.ok u w∧Rep Γ w I r u:=by
 obtain⟨i,hi⟩:=hi;have hu:=Qp he;have ad:∀ (a:Option Addr) (n c:Nat) (b:Nat×Nat),(Instr.sliceBounds true n c ab aa none).run P w=.ok (b.1,b.2,c) w →
   (Instr.sliceAt t (.slice a n c) ab aa none).run P w=.ok (.slice (if c=b.1 then a else a.map (·.add (b.1*P.cellsOf e))) (b.2-b.1) (c-b.1)) w:=by
  intro a n c b hb;simp[Instr.sliceAt,Instr.slice,run_underlying hu,hb,Qq hi]
 unfold Yl at hp';split at hp'
 ·rename_i xs;split at hp'
  ·rename_i ak;obtain⟨b,hb,hp'⟩:=Za hp';cases hp';have:=QE.1 h;simp only[QZ,ZH] at this;obtain⟨a,c,hv,hc,h1⟩:=this;simp at hv;subst hv;obtain⟨hr,h2,h3⟩:=J0 (P:=P) hc hl hh hb true;refine⟨_,ad _ _ _ _ hr,QE.2 ?_⟩;have al:((xs.take b.2).drop b.1).length=b.2-b.1:=by simp;omega
   refine⟨_,c-b.1,by rw[al],by omega,?_⟩;by_cases hz:b.2=b.1
   ·left;exact Km (by omega)
   ·right
    rcases h1 with h1 | ⟨bb,o,sz,rfl,hI,h0,am⟩
    ·subst h1;simp at h3;omega
    ·have aq:¬c=b.1:=by omega
     obtain⟨y,hy⟩:∃ y,xs[0]?=some y:=⟨_,Kz (by omega)⟩
     have ae:sz=P.cellsOf e:=by
      obtain⟨vs,h4,h5,h6⟩:=Xf.1 am 0 y hy;rw[← h4,h6.length];exact ak y (Ke hy)
     subst ae;refine⟨bb,o+b.1*P.cellsOf e,P.cellsOf e,by simp[aq,YH],hI,h0,?_⟩;rw[Xf] at am ⊢;intro j z ag;rw[KY,KS] at ag;split at ag
     ·obtain⟨vs,h4,h5,h6⟩:=am _ z ag;exact⟨vs,h4,by rw[KG,← KI] at h5;exact h5,h6⟩
     ·cases ag
  ·cases hp'
 ·obtain⟨b,hb,hp'⟩:=Za hp';cases hp';obtain⟨a,rfl⟩:=h;obtain⟨hr,h2,h3⟩:=J0 (P:=P) (Kh 0) hl hh hb true;have hb1:b.1=0:=by omega
  have hb2:b.2=0:=by omega
  exact⟨_,ad _ _ _ _ hr,a,by simp[hb1,hb2]⟩
 ·rename_i id;obtain⟨a,n,c,sz,hb,rfl⟩:=h;unfold UM at hp';split at hp'
  ·rename_i ar xs ex fz an;split at hp'
   ·rename_i ae;obtain⟨a',n',c',af,hn,ah⟩:=ho id _ an;rw[hb] at af;cases af;subst ae;have ap:n≤c:=by
     rcases ah with ah | ⟨g,cur,e',_,_,_,ah,_⟩<;>omega
    unfold Zl1 at hp';split at hp'
    ·cases hp';cases ab with
     | some v=>exact hl.elim
     | none=>cases aa with
      | some v=>exact hh.elim
      | none=>
       refine⟨_,ad _ _ _ (0,n) (by simp[Instr.sliceBounds]),a,n,c,_,hb,?_⟩;simp[JF]
    ·obtain⟨b,hb2,hp'⟩:=Za hp';cases hp';rw[← hn] at hb2;obtain⟨hr,h2,h3⟩:=J0 (P:=P) ap hl hh hb2 true;refine⟨_,ad _ _ _ _ hr,a,n,c,_,_,hb,by omega,ap,rfl,?_,?_⟩
     ·intro h0;simp[h0,JF]
     ·by_cases ai:c=b.1
      ·right;exact ai
      ·left;simp[ai]
   ·cases hp'
  ·cases hp'
 ·rename_i id off n;obtain⟨a0,m,c,sz,a,hb,h1,h2,rfl,h3,h4⟩:=h;unfold WA at hp';split at hp'
  ·rename_i ar xs ex fz an;split at hp'
   ·rename_i ae;obtain⟨b,hb2,hp'⟩:=Za hp';cases hp';obtain⟨a',n',c',af,hn,ah⟩:=ho id _ an;rw[hb] at af;cases af;subst ae;have au:(Instr.sliceBounds true n (c-off) ab aa none).run P w=.ok (b.1,b.2,c-off) w∧b.1≤b.2∧off+b.2≤m:=by
     cases aj with
     | none=>
      obtain⟨h7,h8,h9⟩:=J0 (P:=P) (show n≤c-off by omega) hl hh hb2 true;exact⟨h7,h8,by omega⟩
     | some hv=>
      cases aa with
      | none=>exact hh.elim
      | some vh=>
       obtain⟨h7,h8,h9⟩:=J0 (P:=P) (show xs.length-off≤c-off by omega) hl hh hb2 true;exact⟨h7,h8,by omega⟩
    obtain⟨hr,h5,h6⟩:=au;refine⟨_,ad _ _ _ _ hr,a0,m,c,_,_,hb,by omega,h2,by rw[Nat.sub_sub],?_,?_⟩
    ·intro h0;have ao:off=0:=by omega
     have av:b.1=0:=by omega
     simp[av,JF,h3 ao]
    ·by_cases ai:c-off=b.1
     ·right;omega
     ·left
      simp only[ai,Ki];rcases h4 with h4 | h4
      ·subst h4;cases a0<;>simp[ZkN,KG]
      ·omega
   ·cases hp'
  ·cases hp'
 ·cases hp'
theorem ZcP (ho:Wz Γ w I F A hp) {x:AV} {v:Value} {n:Nat} (h:Rep Γ w I x v) (hn:Jz hp x=some n):∃ a c,v=.slice a n c∧n≤c:=by
 unfold Jz at hn;split at hn
 ·cases hn;have:=QE.1 h;simp only[QZ,ZH] at this;obtain⟨a,c,hv,hc,h1⟩:=this;simp at hv;exact⟨a,c,hv,hc⟩
 ·cases hn;obtain⟨a,rfl⟩:=h;exact⟨a,0,rfl,Kh _⟩
 ·rename_i id;obtain⟨xs,hx,hn⟩:=Za hn;cases hn;obtain⟨a,n,c,sz,hb,rfl⟩:=h;unfold Zgk at hx;split at hx
  ·rename_i ad;cases hx;obtain⟨a',n',c',ab,hn,aa⟩:=ho id _ ad;rw[hb] at ab;cases ab;refine⟨a,c,by rw[hn],?_⟩;rcases aa with aa | ⟨g,cur,e',_,_,_,aa,_⟩<;>omega
  ·rename_i ad;cases hx;obtain⟨a',n',c',ab,⟨hn,aa⟩,_⟩:=ho id _ ad;rw[hb] at ab;cases ab;refine⟨a,c,by rw[hn],?_⟩;rcases aa with aa | ⟨g,cur,e',_,_,_,_,aa,_⟩<;>omega
  ·cases hx
 ·cases hn;obtain⟨a0,m,c,sz,a,hb,h1,h2,rfl,_⟩:=h;exact⟨a,_,rfl,by omega⟩
 ·cases hn
theorem Znp {t e:TypeId} (he:Q8 P t=some e) (hi:∃ i,P.info? e=some i) (ho:Wz Γ w I F A hp) {x y z r:AV} {v vh vm:Value} (h:Rep Γ w I x v) (hh:Rep Γ w I y vh) (hm:Rep Γ w I z vm)
  (hp' : slice0 hp x (idx y) (idx z)=some r):∃ u,(Instr.sliceAt t v none (some vh) (some vm)).run P w=.ok u w∧Rep Γ w I r u:=by
 obtain⟨i,hi⟩:=hi;unfold slice0 at hp';split at hp'
 ·rename_i h1 h2;obtain⟨n,hn,hp'⟩:=Za hp';cases hp';obtain⟨a,c,rfl,hc⟩:=ZcP ho h hn;obtain⟨k1,rfl⟩:=Yr h1 hh;obtain⟨k2,rfl⟩:=Yr h2 hm;refine⟨.slice a 0 0,?_,a,rfl⟩;simp[Instr.sliceAt,Instr.slice,run_underlying (Qp he),Instr.sliceBounds,Instr.sliceBound,asIntOf,Qq hi]
 ·cases hp'
theorem Znq {t e:TypeId} (he:Q8 P t=some e) (hi:∃ i,P.info? e=some i) (ho:Wz Γ w I F A hp) {x y z u r:AV} {v vl vh vm:Value} (h:Rep Γ w I x v) (hl:Rep Γ w I y vl) (hh:Rep Γ w I z vh) (hm:Rep Γ w I u vm)
  (hp' : slice3 hp x (idx y) (idx z) (idx u)=some r):∃ q,(Instr.sliceAt t v (some vl) (some vh) (some vm)).run P w=.ok q w∧Rep Γ w I r q:=by
 obtain⟨i,hi⟩:=hi;unfold slice3 at hp';obtain⟨l,h1,hp'⟩:=Za hp';obtain⟨hI,h2,hp'⟩:=Za hp';obtain⟨m,h3,hp'⟩:=Za hp';obtain⟨n,h4,hp'⟩:=Za hp';split at hp'
 ·rename_i hc;cases hp';obtain⟨c1,c2,c3,c4⟩:=hc;obtain⟨a,c,rfl,hc⟩:=ZcP ho h h4;obtain⟨k1,rfl⟩:=Yr h1 hl;obtain⟨k2,rfl⟩:=Yr h2 hh;obtain⟨k3,rfl⟩:=Yr h3 hm;have e1:=run_sliceBound (P:=P) w k3 m c .slice3Acap (by omega) (by omega);have e2:=run_sliceBound (P:=P) w k2 hI m.toNat .slice3B (by omega) (by omega);have e3:=run_sliceBound (P:=P) w k1 l hI.toNat .slice3C (by omega) (by omega);exact⟨_,by simp[Instr.sliceAt,Instr.slice,run_underlying (Qp he),Instr.sliceBounds,e1,e2,e3,Qq hi];rfl,trivial⟩
 ·cases hp'
theorem Zr3 {t e ty:TypeId} (he:Q8 P t=some e) (ho:Wz Γ w I F A hp) {x:AV} {v:Value} {n:Nat} (h:Rep Γ w I x v) (hn:Jz hp x=some n) :
  (Builtin.len_ #[t] ty #[v]).run P w=.ok (.int .i64 n) w:=by
 obtain⟨a,c,rfl,hc⟩:=ZcP ho h hn;simp[Builtin.len_,run_underlying (Qp he),goInt]
theorem ZqJ {t ty:TypeId} (he:WC P t=true) {x:AV} {v:Value} {n:Nat} (h:Rep Γ w I x v) (hn:Zo2 x=some n) :
  (Builtin.len_ #[t] ty #[v]).run P w=.ok (.int .i64 n) w:=by
 unfold Zo2 at hn;split at hn
 ·cases hn;obtain⟨s,rfl,rfl⟩:=Zam h;simp[Builtin.len_,run_underlying (VF he),goInt]
 ·cases hn
theorem Znr {t:TypeId} (he:WC P t=true) {lo aa : Option AV} {ab ad:Option Value} (hl:Zno Γ w I lo ab) (hh:Zno Γ w I aa ad)
  {x r:AV} {v:Value} (h:Rep Γ w I x v) (hp' : sliceS lo aa x=some r) :
  ∃ u,(Instr.sliceAt t v ab ad none).run P w=.ok u w∧Rep Γ w I r u:=by
 unfold sliceS at hp';split at hp'
 ·obtain⟨b,hb,hp'⟩:=Za hp';cases hp';obtain⟨s,rfl,rfl⟩:=Zam h;have ae:s.data.toList.length=s.size:=rfl;rw[ae] at hb;obtain⟨hr,h2,h3⟩:=J0 (P:=P) (Kh _) hl hh hb false;refine⟨.string (s.extract b.1 b.2),?_,ZlV ?_⟩
  ·simp[Instr.sliceAt,Instr.slice,run_underlying (VF he),hr]
  ·rw[ByteArray.data_extract,Array.toList_extract,List.extract_eq_take_drop,List.drop_take]
 ·cases hp'
theorem Zhf (k:IntKind) (n:Int):QZ w I (.int k n) (.int k n):=by simp[QZ,ZH]
theorem UA (b:Bool):QZ w I (.bool b) (.bool b):=by simp[QZ,ZH]
theorem ZqK {op:BinOp} {k:IntKind} {a b:Int} {d:D} (h:Vg op k a b=some d) (t:TypeId):∃ u,(binOp op t (.int k a) (.int k b)).run P w=.ok u w∧QZ w I d u:=by
 cases op<;>simp only[Vg] at h<;>first
  | (cases h;exact⟨_,by simp[binOp,Op.intArith,Op.intBits,Op.intCmp],Zhf _ _⟩)
  | (cases h;exact⟨_,by simp[binOp,Op.intArith,Op.intBits,Op.intCmp],UA _⟩)
  | (split at h
     ·cases h
     ·rename_i hb;cases h;exact⟨_,by simp[binOp,Op.intDiv,hb],Zhf _ _⟩)
  | (cases h;done)
theorem Zhg {op:BinOp} {k k' : IntKind} {a b:Int} {d:D} (h:Zef op k a b=some d) (t:TypeId):∃ u,(binOp op t (.int k a) (.int k' b)).run P w=.ok u w∧QZ w I d u:=by
 unfold Zef at h;split at h
 ·cases h
 ·rename_i hb;cases op<;>simp only[] at h<;>first
   | (cases h;exact⟨_,by simp[binOp,Op.shift,hb],Zhf _ _⟩)
   | (cases h;done)
theorem ZqL {op:BinOp} {x y:ByteArray} {d:D} (h:Zlq op x.data.toList y.data.toList=some d) (t:TypeId):∃ u,(binOp op t (.string x) (.string y)).run P w=.ok u w∧QZ w I d u:=by
 have e1:(x.toList==y.toList)=(x.data.toList==y.data.toList):=by rw[ByteArray.toList_eq,ByteArray.toList_eq]
 cases op<;>simp only[Zlq] at h<;>first
  | (split at h
     ·rename_i hl;cases h;refine ⟨.string (x ++ y), ?_, ?_⟩
      ·have := run_string_add_sum (P := P) w x y (by
        have h1 : x.data.toList.length = x.size := rfl;have h2 : y.data.toList.length = y.size := rfl;simp only [ZmU] at hl; omega)
       simpa [binOp] using this
      ·simp [QZ, ZH]
     ·cases h)
  | (cases h;exact⟨_,by simp[binOp,Op.stringOp,e1],UA _⟩)
  | (cases h;done)
end
end Go.Abs
set_option linter.unusedVariables false
set_option linter.unusedSimpArgs false
namespace Go.Abs
open Go
def Zhh (P:Program) (o:Oper) (a:Act) (w:World) (u:Value) (w' : World):Prop:=
 (execOp a.eval o).run P w=.ok (.value u) w'∨((execOp a.eval o).run P w=.ok .skip w'∧u=undef)
theorem Zhh.wp {P:Program} {o:Oper} {a:Act} {w w' : World} {u:Value} (h:Zhh P o a w u w') {K:Act→World→Prop} {Q:Exit→Act→World→Prop} (hk:K (a.put o.dst u) w'):o.wp P a w K Q:=by
 unfold Oper.wp;rcases h with h | ⟨h,rfl⟩
 ·rw[h];exact hk
 ·rw[h];exact hk
section
variable {P:Program} {Γ:Gh} {w:World} {I:Nat→Prop} {F A:Nat→Prop} {hp:Hp} {sl:Sl} {a:Act}
def ceV (r:AV):Zb := { eff := { val:=r },gone:=[] }
def Q9 (P:Program) (Γ:Gh) (I:Nat→Prop) (o:Oper) (a:Act) (w:World) (ce:Zb):Prop:=
 ∃ u r,Zhh P o a w u w∧ce=ceV r∧Rep Γ w I r u
theorem Z4 {v:AV} {ce:Zb} (h:Qe v=some ce):ce=ceV v:=by cases h;rfl
theorem opt1_some {v:Option AV} {ce:Zb} (h:YA v=some ce):∃ r,v=some r∧ce=ceV r:=by
 obtain⟨r,h1,h2⟩:=Za h;exact⟨r,h1,Z4 h2⟩
theorem Zez {o:Oper} {x:Operand} {y:Opd} (ho:o.op=.move x∨o.op=.assign x) (hs:Up Γ w I sl a) (hc:ZJ x=some y) {ce:Zb} (hv:Qe (evO sl y)=some ce):Q9 P Γ I o a w ce:=by
 refine⟨a.eval x,_,.inl ?_,Z4 hv,hs.ev hc⟩;rcases ho with ho | ho<;>simp[execOp,ho]
theorem ZpI {o:Oper} {x y z:Operand} {x' y' z' : Opd} (ho:o.op=.pick x y z) (hs:Up Γ w I sl a) (hx:ZJ x=some x') (hy:ZJ y=some y') (hz:ZJ z=some z') {ce:Zb}
  (hv:Zbl (evO sl y') (evO sl z') (evO sl x')=some ce):Q9 P Γ I o a w ce:=by
 have h1:=hs.ev hx;unfold Zbl at hv;split at hv
 ·rename_i t aa;rw[aa] at h1;have h2:=JY h1;split at hv
  ·rename_i ht;subst ht;exact⟨a.eval y,_,.inl (by simp[execOp,ho,h2,asBool]),Z4 hv,hs.ev hy⟩
  ·rename_i ht;simp at ht;subst ht;exact⟨a.eval z,_,.inl (by simp[execOp,ho,h2,asBool]),Z4 hv,hs.ev hz⟩
 ·cases hv
theorem ZpJ {o:Oper} {t:TypeId} {x:Operand} {y:Opd} {g:Bool} (ho:o.op=.load t x) (hs:Up Γ w I sl a) (hh:Wz Γ w I F A hp) (hg:JZ P t=some g) (hc:ZJ x=some y) {ce:Zb}
  (hv:YA (Vj hp g (P.cellsOf t) (evO sl y))=some ce):Q9 P Γ I o a w ce:=by
 obtain⟨r,h1,h2⟩:=opt1_some hv;obtain⟨u,h3,h4⟩:=ZlY (P:=P) hg hh (hs.ev hc) h1;exact⟨u,r,.inl (by simp[execOp,ho,h3]),h2,h4⟩
theorem ZiR {o:Oper} {x:Operand} {y:Opd} (ho:o.op=.nilCheck x) (hs:Up Γ w I sl a) (hc:ZJ x=some y) {ce:Zb} (hv:WB (evO sl y)=some ce):Q9 P Γ I o a w ce:=by
 have h1:=hs.ev hc;unfold WB at hv;split at hv
 ·rename_i h;rw[h] at h1;obtain⟨b,h2,h3⟩:=h1;exact⟨_,_,.inl (by simp[execOp,ho,h3]),Z4 hv,b,h2,rfl⟩
 ·rename_i h;rw[h] at h1;obtain⟨b,o1,n,c,h2,h3,h4⟩:=h1;exact⟨_,_,.inl (by simp[execOp,ho,h4]),Z4 hv,b,o1,n,c,h2,h3,rfl⟩
 ·rename_i h;rw[h] at h1;obtain⟨b,o',vs,h2,h3⟩:=h1;exact⟨_,_,.inl (by simp[execOp,ho,h2]),Z4 hv,b,o',vs,rfl,h3⟩
 ·rename_i h;rw[h] at h1;obtain⟨us,h2,h3⟩:=h1;exact⟨_,_,.inl (by simp[execOp,ho,h2]),Z4 hv,us,rfl,h3⟩
 ·cases hv
theorem Zfs {op:BinOp} {t:TypeId} {x y:Operand} {u v:Value} (hu:∀ c,u≠.agg c) (hn:u≠.nilIface):(eqGuard op t x y u v).run P w=.ok () w:=by
 unfold eqGuard;cases op<;>simp<;>(cases u<;>simp at hu hn ⊢)
theorem ZkO {t:TypeId} (h:P.underlying t=some .bool) (x y:Bool):(binOp .eql t (.bool x) (.bool y)).run P w=.ok (.bool (x==y)) w:=by
 have h1:binOp .eql t (.bool x) (.bool y)=(do let r ← Op.equalIn (9999+1) t (.bool x) (.bool y);pure (.bool r)):=rfl;rw[h1,Sem.run_bind,run_equalIn_bool' w 9999 t x y h];rfl
theorem ZkP {t:TypeId} (h:P.underlying t=some .bool) (x y:Bool):(binOp .neq t (.bool x) (.bool y)).run P w=.ok (.bool (!(x==y))) w:=by
 have h1:binOp .neq t (.bool x) (.bool y)=(do let r ← Op.equalIn (9999+1) t (.bool x) (.bool y);pure (.bool (!r))):=rfl;rw[h1,Sem.run_bind,run_equalIn_bool' w 9999 t x y h];rfl
theorem ZkQ {t:TypeId} (h:Zb1 P t=true):P.underlying t=some .bool:=by
 unfold Zb1 at h;split at h
 ·assumption
 ·cases h
theorem ZqM {o:Oper} {op:BinOp} {t ab : TypeId} {x y:Operand} {x' y' : Opd} (ho:o.op=.binOp op t x y ab) (hs:Up Γ w I sl a) (hx:ZJ x=some x') (hy:ZJ y=some y') {ce:Zb}
  (hv:Zet op (Zb1 P t) (evO sl x') (evO sl y')=some ce):Q9 P Γ I o a w ce:=by
 have h1:=hs.ev hx;have h2:=hs.ev hy;have aa:∀ {d:D} {u:Value},(∀ c,a.eval x≠.agg c)→a.eval x≠.nilIface→(binOp op t (a.eval x) (a.eval y)).run P w=.ok u w→QZ w I d u→ce=ceV (.d d)→Q9 P Γ I o a w ce:=
  fun h3 h4 h5 h6 h7=>⟨_,_,.inl (by simp[execOp,ho,Zfs h3 h4,h5]),h7,QE.2 h6⟩
 unfold Zet at hv;split at hv
 ·rename_i p q hp' hq;rw[hp'] at h1;rw[hq] at h2;have e1:=JY h1;have e2:=JY h2;split at hv
  ·rename_i hb;have hu:=ZkQ hb;obtain⟨r,h3,h4⟩:=opt1_some hv;unfold Zje at h3;split at h3
   ·cases h3;exact aa (by simp[e1]) (by simp[e1]) (by rw[e1,e2];exact ZkO hu _ _) (UA _) h4
   ·cases h3;exact aa (by simp[e1]) (by simp[e1]) (by rw[e1,e2];exact ZkP hu _ _) (UA _) h4
   ·cases h3
  ·cases hv
 ·obtain⟨r,h3,h4⟩:=opt1_some hv;unfold vbin at h3;split at h3
  ·rename_i k p k' q hp' hq;rw[hp'] at h1;rw[hq] at h2;have e1:=Uq h1;have e2:=Uq h2;unfold VX at h3;split at h3
   ·obtain⟨d,h5,h6⟩:=Za h3;cases h6;obtain⟨u,h7,h8⟩:=Zhg (P:=P) (w:=w) (I:=I) (k':=k') h5 t;exact aa (by simp[e1]) (by simp[e1]) (by rw[e1,e2];exact h7) h8 h4
   ·obtain⟨d,h5,h6⟩:=Za h3;cases h6;obtain⟨u,h7,h8⟩:=Zhg (P:=P) (w:=w) (I:=I) (k':=k') h5 t;exact aa (by simp[e1]) (by simp[e1]) (by rw[e1,e2];exact h7) h8 h4
   ·split at h3
    ·rename_i hk;subst hk;obtain⟨d,h5,h6⟩:=Za h3;cases h6;obtain⟨u,h7,h8⟩:=ZqK (P:=P) (w:=w) (I:=I) h5 t;exact aa (by simp[e1]) (by simp[e1]) (by rw[e1,e2];exact h7) h8 h4
    ·cases h3
  ·rename_i p q hp' hq;rw[hp'] at h1;rw[hq] at h2;obtain⟨s1,e1,rfl⟩:=Zam h1;obtain⟨s2,e2,rfl⟩:=Zam h2;obtain⟨d,h5,h6⟩:=Za h3;cases h6;obtain⟨u,h7,h8⟩:=ZqL (P:=P) (w:=w) (I:=I) h5 t;exact aa (by simp[e1]) (by simp[e1]) (by rw[e1,e2];exact h7) h8 h4
  ·cases h3
theorem Zr4 {o:Oper} {op:UnOp} {t:TypeId} {x:Operand} {x' : Opd} (ho:o.op=.unOp op t x) (hs:Up Γ w I sl a) (hx:ZJ x=some x') {ce:Zb}
  (hv:YA (vun op (evO sl x'))=some ce):Q9 P Γ I o a w ce:=by
 have h1:=hs.ev hx;obtain⟨r,h3,h4⟩:=opt1_some hv;unfold vun at h3;split at h3
 ·rename_i hq;rw[hq] at h1;have e1:=Uq h1;unfold neg1 at h3;split at h3
  ·cases h3;exact⟨_,_,.inl (by simp[execOp,ho,e1,Op.unary,Op.intArith]),h4,UH _ _⟩
  ·cases h3
 ·rename_i hq;rw[hq] at h1;have e1:=JY h1;unfold not1 at h3;split at h3
  ·cases h3;exact⟨_,_,.inl (by simp[execOp,ho,e1,Op.unary]),h4,Zpt _⟩
  ·cases h3
 ·cases h3
theorem ZpK {o:Oper} {s d:TypeId} {x:Operand} {x' : Opd} {c:COp} (ho:o.op=.convert s d x) (hs:Up Γ w I sl a) (hx:ZJ x=some x') (hc:Zox x' (WC P s) (WC P d) (ZpF P s) (ZpF P d)=some c)
  {C:Orc} {M:Zg} {base:Nat} {ce:Zb} (hv:vop C M sl hp base c=some ce):Q9 P Γ I o a w ce:=by
 have h1:=hs.ev hx;unfold Zox at hc;split at hc
 ·rename_i k k' hk aa;cases hc;simp only[vop,Abs.convI] at hv;split at hv
  ·rename_i hq;rw[hq] at h1;have e1:=Uq h1;exact⟨_,_,.inl (by simp[execOp,ho,e1,convert,run_underlying (Zjz hk),run_underlying (Zjz aa),Conv.intToInt]),Z4 hv,UH _ _⟩
  ·cases hv
 ·split at hc
  ·rename_i hh;cases hc;simp at hh;simp only[vop,Abs.convS] at hv;split at hv
   ·rename_i hq;rw[hq] at h1;obtain⟨s1,e1,e2⟩:=Zam h1;exact⟨_,_,.inl (by simp[execOp,ho,e1,convert,run_underlying (VF hh.1),run_underlying (VF hh.2)]),Z4 hv,ZlV e2⟩
   ·cases hv
  ·cases hc
theorem ZpL {o:Oper} {t:TypeId} {f:Nat} {x:Operand} {x' : Opd} {q:Nat×TypeId} {g:Bool} (ho:o.op=.field t x f) (hs:Up Γ w I sl a) (hq:Zas P t f=some q) (hg:JZ P q.2=some g) (hx:ZJ x=some x')
  {ce:Zb} (hv:YA (Zdo g (P.cellsOf q.2) q.1 (evO sl x'))=some ce):Q9 P Γ I o a w ce:=by
 obtain⟨r,h3,h4⟩:=opt1_some hv;obtain⟨cs,u,h5,h6,h7⟩:=ZlX (P:=P) hg (hs.ev hx) h3;obtain⟨fs,y,h8,h9,aa,ab,ad⟩:=Zbd hq;refine⟨u,r,.inl ?_,h4,h7⟩;simp[execOp,ho,Instr.field,run_underlying h8,h9,h5,asAgg,aa,ab,h6]
theorem Zns {o:Oper} {t:TypeId} {f:Nat} {x:Operand} {x' : Opd} {q:Nat×TypeId} (ho:o.op=.fieldAddr t x f) (hs:Up Γ w I sl a) (hq:Zas P t f=some q) (hx:ZJ x=some x')
  {ce:Zb} (hv:YJ q.1 (evO sl x')=some ce):Q9 P Γ I o a w ce:=by
 obtain⟨u,r,h1,h2,h3⟩:=Zpv (P:=P) hq (hs.ev hx) hv;exact⟨u,r,.inl (by simp[execOp,ho,h1]),h2,h3⟩
theorem ZqN {o:Oper} {i:Nat} {x:Operand} {x' : Opd} (ho:o.op=.extract x i) (hs:Up Γ w I sl a) (hx:ZJ x=some x')
  {ce:Zb} (hv:Zl4 i (evO sl x')=some ce):Q9 P Γ I o a w ce:=by
 have h1:=hs.ev hx;unfold Zl4 at hv;split at hv
 ·rename_i vs hq;rw[hq] at h1;obtain⟨us,h2,h3⟩:=h1;obtain⟨r,h4,h5⟩:=opt1_some hv;obtain⟨u,h6,h7⟩:=h3.get i r h4;have aa : us[i]?=some u:=by simpa using h6
  exact⟨u,r,.inl (by simp[execOp,ho,Instr.extract,h2,aa]),h5,h7.rep⟩
 ·cases hv
theorem Zhi {x y:AV} {u v:Value} {ce:Zb} (hx:Rep Γ w I x u) (hy:Rep Γ w I y v) (at_:Array TypeId) (ty:TypeId) :
  (Zfn x y=some ce→∃ z r,(Builtin.min_ at_ ty #[u,v]).run P w=.ok z w∧ce=ceV r∧Rep Γ w I r z) ∧
  (Zfo x y=some ce→∃ z r,(Builtin.max_ at_ ty #[u,v]).run P w=.ok z w∧ce=ceV r∧Rep Γ w I r z):=by
 constructor
 ·intro h;unfold Zfn at h;split at h
  ·split at h
   ·rename_i hk;subst hk;rw[Uq hx,Uq hy];exact⟨_,_,by simp[Builtin.min_,Builtin.min2];rfl,Z4 h,UH _ _⟩
   ·cases h
  ·cases h
 ·intro h;unfold Zfo at h;split at h
  ·split at h
   ·rename_i hk;subst hk;rw[Uq hx,Uq hy];exact⟨_,_,by simp[Builtin.max_,Builtin.max2];rfl,Z4 h,UH _ _⟩
   ·cases h
  ·cases h
theorem Znt {o:Oper} {t:TypeId} {x i:Operand} {x' i' : Opd} {c:COp} (ho:o.op=.index t x i) (hs:Up Γ w I sl a) (hx:ZJ x=some x') (hi:ZJ i=some i')
  (hc:ZkK P x' i' (WC P t) (ZcN P t)=some c) {C:Orc} {M:Zg} {base:Nat} {ce:Zb} (hv:vop C M sl hp base c=some ce):Q9 P Γ I o a w ce:=by
 have h1:=hs.ev hx;have h2:=hs.ev hi;unfold ZkK at hc;split at hc
 ·rename_i aa;cases hc;simp only[vop] at hv;obtain⟨n,hn,hv⟩:=Za hv;obtain⟨k,e2⟩:=Yr hn h2;unfold Znj at hv;split at hv
  ·rename_i s hq;rw[hq] at h1;obtain⟨s1,e1,rfl⟩:=Zam h1;unfold Zl3 at hv;split at hv
   ·rename_i h0;obtain⟨b,hb,hv⟩:=Za hv;have ab : s1[n.toNat]?=some b:=by
     have:s1.data[n.toNat]?=some b:=by simpa using hb
     exact this
    exact⟨_,_,.inl (by simp[execOp,ho,e1,e2,Instr.index,asIntOf,run_underlying (VF aa),h0,ab]),Z4 hv,UH _ _⟩
   ·cases hv
  ·cases hv
 ·obtain⟨q,hq,hc⟩:=Za hc;obtain⟨g,hg,hc⟩:=Za hc;cases hc;simp only[vop] at hv;obtain⟨n,hn,hv⟩:=Za hv;obtain⟨k,e2⟩:=Yr hn h2;unfold ZpE at hv;split at hv
  ·rename_i hb;obtain⟨r,h3,h4⟩:=opt1_some hv;obtain⟨cs,u,h5,h6,h7⟩:=ZlX (P:=P) hg h1 h3;obtain⟨ii,ad⟩:=ZbW hg;exact⟨u,r,.inl (by simp[execOp,ho,h5,e2,Instr.index,asIntOf,run_underlying (ZjA hq),hb.1,hb.2,Qq ad,h6]),h4,h7⟩
  ·cases hv
end
end Go.Abs
