/- Own text. -/
import Derived.Test.YtefabmohhbhlfaaAbsExec
set_option linter.unusedVariables false
set_option linter.unusedSimpArgs false
namespace Go.Abs
open Go
section
variable {P:Program} {Γ:Gh} {w:World} {I:Nat→Prop} {F A:Nat→Prop} {hp:Hp}
def Zpc (Γ:Gh) (w:World) (I:Nat→Prop):Option AV→Option Value→Prop
 | none,none=>True
 | some x,some v=>Rep Γ w I x v
 | _,_=>False
theorem Jg.evM {sl:Sl} {a:Act} (h:Jg Γ w I sl a) {x:Option Operand} {y:Option Opd} (hc:cOO x=some y):Zpc Γ w I (evM sl y) (x.map a.eval):=by
 cases x with
 | none=>simp only[cOO] at hc;cases hc;exact trivial
 | some x=>
  simp only[cOO] at hc;obtain⟨y',h1,hc⟩:=Za hc;cases hc;exact h.ev h1
theorem ZsT {m n c:Nat} (ab:m≤c) {x:AV} {v:Value} (h:Rep Γ w I x v) (hb:bd m x=some n) (aa:BoundsCode) :
  (Instr.sliceBound v c aa).run P w=.ok n w∧n≤m:=by
 unfold bd at hb;obtain⟨i,hi,hb⟩:=Za hb;obtain⟨k,rfl⟩:=YV hi h;split at hb
 ·rename_i hc;cases hb;refine⟨run_sliceBound w k i c aa hc.1 (by omega),by omega⟩
 ·cases hb
theorem Za9 {len ae:Nat} (af:len≤ae) {lo hi:Option AV} {ab ad:Option Value} (hl:Zpc Γ w I lo ab) (hh:Zpc Γ w I hi ad) {b:Nat×Nat} (hb:Zmx len lo hi=some b) (aa:Bool) :
  (Instr.sliceBounds aa len ae ab ad none).run P w=.ok (b.1,b.2,ae) w∧b.1≤b.2∧b.2≤len:=by
 unfold Zmx at hb;obtain⟨h,h1,hb⟩:=Za hb;obtain⟨l,h2,hb⟩:=Za hb;cases hb;have hH:(match ad with | some v=>Instr.sliceBound v ae (if aa then .sliceAcap else .sliceAlen) | none=>pure len:Sem Nat).run P w=.ok h w∧h≤len:=by
  cases hi with
  | none=>cases ad with
   | none=>simp only[hiOf] at h1;cases h1;exact⟨rfl,Kh _⟩
   | some v=>exact hh.elim
  | some x=>cases ad with
   | none=>exact hh.elim
   | some v=>exact ZsT af hh h1 _
 have hL:(match ab with | some v=>Instr.sliceBound v h .sliceB | none=>pure 0:Sem Nat).run P w=.ok l w∧l≤h:=by
  cases lo with
  | none=>cases ab with
   | none=>simp only[loOf] at h2;cases h2;exact⟨rfl,LZ _⟩
   | some v=>exact hl.elim
  | some x=>cases ab with
   | none=>exact hl.elim
   | some v=>exact ZsT (Kh _) hl h2 _
 refine⟨?_,hL.2,hH.2⟩;unfold Instr.sliceBounds;cases ad<;>cases ab<;>simp only[] at hH hL<;>simp[hH.1,hL.1]<;>(simp at hH hL;simp[hH,hL])
theorem ZmD (a:Addr) (x y:Nat):(a.add x).add y=a.add (x+y):=by
 unfold Addr.add;by_cases hx:x=0
 ·simp[hx]
 ·by_cases hy:y=0
  ·simp[hx,hy]
  ·have:x+y≠0:=by omega
   simp[hx,hy,this,KK]
theorem ZaL (a:Addr):a.add 0=a:=by simp[Addr.add]
theorem Zrz {t e:TypeId} (he:Xw P t=some e) (hi:∃ i,P.info? e=some i) (ho:Uo Γ w I F A hp) {lo aj : Option AV} {ab aa:Option Value} (hl:Zpc Γ w I lo ab) (hh:Zpc Γ w I aj aa)
  {x r:AV} {v:Value} (h:Rep Γ w I x v) (hp' : YP hp (P.cellsOf e) lo aj x=some r) :
  ∃ u,(Instr.sliceAt t v ab aa none).run P w=.ok u w∧Rep Γ w I r u:=by
 obtain⟨i,hi⟩:=hi;have hu:=Qy he;have ad:∀ (a:Option Addr) (n c:Nat) (b:Nat×Nat),(Instr.sliceBounds true n c ab aa none).run P w=.ok (b.1,b.2,c) w →
   (Instr.sliceAt t (.slice a n c) ab aa none).run P w=.ok (.slice (if c=b.1 then a else a.map (·.add (b.1*P.cellsOf e))) (b.2-b.1) (c-b.1)) w:=by
  intro a n c b hb;simp[Instr.sliceAt,Instr.slice,run_underlying hu,hb,Qz hi]
 unfold YP at hp';split at hp'
 ·rename_i xs;split at hp'
  ·rename_i ak;obtain⟨b,hb,hp'⟩:=Za hp';cases hp';have:=QR.1 h;simp only[Xj,ZL] at this;obtain⟨a,c,hv,hc,h1⟩:=this;simp at hv;subst hv;obtain⟨hr,h2,h3⟩:=Za9 (P:=P) hc hl hh hb true;refine⟨_,ad _ _ _ _ hr,QR.2 ?_⟩;have al:((xs.take b.2).drop b.1).length=b.2-b.1:=by simp;omega
   refine⟨_,c-b.1,by rw[al],by omega,?_⟩;by_cases hz:b.2=b.1
   ·left;exact Ko (by omega)
   ·right
    rcases h1 with h1 | ⟨bb,o,sz,rfl,hI,h0,am⟩
    ·subst h1;simp at h3;omega
    ·have aq:¬c=b.1:=by omega
     obtain⟨y,hy⟩:∃ y,xs[0]?=some y:=⟨_,KE (by omega)⟩
     have ae:sz=P.cellsOf e:=by
      obtain⟨vs,h4,h5,h6⟩:=XD.1 am 0 y hy;rw[← h4,h6.length];exact ak y (Kp hy)
     subst ae;refine⟨bb,o+b.1*P.cellsOf e,P.cellsOf e,by simp[aq,Vj],hI,h0,?_⟩;rw[XD] at am ⊢;intro j z ag;rw[Ld,Lj] at ag;split at ag
     ·obtain⟨vs,h4,h5,h6⟩:=am _ z ag;exact⟨vs,h4,by rw[KI,← KK] at h5;exact h5,h6⟩
     ·cases ag
  ·cases hp'
 ·obtain⟨b,hb,hp'⟩:=Za hp';cases hp';obtain⟨a,rfl⟩:=h;obtain⟨hr,h2,h3⟩:=Za9 (P:=P) (Kh 0) hl hh hb true;have hb1:b.1=0:=by omega
  have hb2:b.2=0:=by omega
  exact⟨_,ad _ _ _ _ hr,a,by simp[hb1,hb2]⟩
 ·rename_i id;obtain⟨a,n,c,sz,hb,rfl⟩:=h;unfold JP at hp';split at hp'
  ·rename_i ar xs ex fz an;split at hp'
   ·rename_i ae;obtain⟨a',n',c',af,hn,ah⟩:=ho id _ an;rw[hb] at af;cases af;subst ae;have ap:n≤c:=by
     rcases ah with ah | ⟨g,cur,e',_,_,_,ah,_⟩<;>omega
    unfold ZnS at hp';split at hp'
    ·cases hp';cases ab with
     | some v=>exact hl.elim
     | none=>cases aa with
      | some v=>exact hh.elim
      | none=>
       refine⟨_,ad _ _ _ (0,n) (by simp[Instr.sliceBounds]),a,n,c,_,hb,?_⟩;simp[ZaL]
    ·obtain⟨b,hb2,hp'⟩:=Za hp';cases hp';rw[← hn] at hb2;obtain⟨hr,h2,h3⟩:=Za9 (P:=P) ap hl hh hb2 true;refine⟨_,ad _ _ _ _ hr,a,n,c,_,_,hb,by omega,ap,rfl,?_,?_⟩
     ·intro h0;simp[h0,ZaL]
     ·by_cases ai:c=b.1
      ·right;exact ai
      ·left;simp[ai]
   ·cases hp'
  ·cases hp'
 ·rename_i id off n;obtain⟨a0,m,c,sz,a,hb,h1,h2,rfl,h3,h4⟩:=h;unfold Up at hp';split at hp'
  ·rename_i ar xs ex fz an;split at hp'
   ·rename_i ae;obtain⟨b,hb2,hp'⟩:=Za hp';cases hp';obtain⟨a',n',c',af,hn,ah⟩:=ho id _ an;rw[hb] at af;cases af;subst ae;have au:(Instr.sliceBounds true n (c-off) ab aa none).run P w=.ok (b.1,b.2,c-off) w∧b.1≤b.2∧off+b.2≤m:=by
     cases aj with
     | none=>
      obtain⟨h7,h8,h9⟩:=Za9 (P:=P) (show n≤c-off by omega) hl hh hb2 true;exact⟨h7,h8,by omega⟩
     | some hv=>
      cases aa with
      | none=>exact hh.elim
      | some vh=>
       obtain⟨h7,h8,h9⟩:=Za9 (P:=P) (show xs.length-off≤c-off by omega) hl hh hb2 true;exact⟨h7,h8,by omega⟩
    obtain⟨hr,h5,h6⟩:=au;refine⟨_,ad _ _ _ _ hr,a0,m,c,_,_,hb,by omega,h2,by rw[Nat.sub_sub],?_,?_⟩
    ·intro h0;have ao:off=0:=by omega
     have av:b.1=0:=by omega
     simp[av,ZaL,h3 ao]
    ·by_cases ai:c-off=b.1
     ·right;omega
     ·left
      simp only[ai,Kf];rcases h4 with h4 | h4
      ·subst h4;cases a0<;>simp[ZmD,KI]
      ·omega
   ·cases hp'
  ·cases hp'
 ·cases hp'
theorem Zel (ho:Uo Γ w I F A hp) {x:AV} {v:Value} {n:Nat} (h:Rep Γ w I x v) (hn:ZaE hp x=some n):∃ a c,v=.slice a n c∧n≤c:=by
 unfold ZaE at hn;split at hn
 ·cases hn;have:=QR.1 h;simp only[Xj,ZL] at this;obtain⟨a,c,hv,hc,h1⟩:=this;simp at hv;exact⟨a,c,hv,hc⟩
 ·cases hn;obtain⟨a,rfl⟩:=h;exact⟨a,0,rfl,Kh _⟩
 ·rename_i id;obtain⟨xs,hx,hn⟩:=Za hn;cases hn;obtain⟨a,n,c,sz,hb,rfl⟩:=h;unfold VF at hx;split at hx
  ·rename_i ad;cases hx;obtain⟨a',n',c',ab,hn,aa⟩:=ho id _ ad;rw[hb] at ab;cases ab;refine⟨a,c,by rw[hn],?_⟩;rcases aa with aa | ⟨g,cur,e',_,_,_,aa,_⟩<;>omega
  ·rename_i ad;cases hx;obtain⟨a',n',c',ab,⟨hn,aa⟩,_⟩:=ho id _ ad;rw[hb] at ab;cases ab;refine⟨a,c,by rw[hn],?_⟩;rcases aa with aa | ⟨g,cur,e',_,_,_,_,aa,_⟩<;>omega
  ·cases hx
 ·cases hn;obtain⟨a0,m,c,sz,a,hb,h1,h2,rfl,_⟩:=h;exact⟨a,_,rfl,by omega⟩
 ·cases hn
theorem Zpd {t e:TypeId} (he:Xw P t=some e) (hi:∃ i,P.info? e=some i) (ho:Uo Γ w I F A hp) {x y z r:AV} {v vh vm:Value} (h:Rep Γ w I x v) (hh:Rep Γ w I y vh) (hm:Rep Γ w I z vm)
  (hp' : slice0 hp x (idx y) (idx z)=some r):∃ u,(Instr.sliceAt t v none (some vh) (some vm)).run P w=.ok u w∧Rep Γ w I r u:=by
 obtain⟨i,hi⟩:=hi;unfold slice0 at hp';split at hp'
 ·rename_i h1 h2;obtain⟨n,hn,hp'⟩:=Za hp';cases hp';obtain⟨a,c,rfl,hc⟩:=Zel ho h hn;obtain⟨k1,rfl⟩:=YV h1 hh;obtain⟨k2,rfl⟩:=YV h2 hm;refine⟨.slice a 0 0,?_,a,rfl⟩;simp[Instr.sliceAt,Instr.slice,run_underlying (Qy he),Instr.sliceBounds,Instr.sliceBound,asIntOf,Qz hi]
 ·cases hp'
theorem Zpe {t e:TypeId} (he:Xw P t=some e) (hi:∃ i,P.info? e=some i) (ho:Uo Γ w I F A hp) {x y z u r:AV} {v vl vh vm:Value} (h:Rep Γ w I x v) (hl:Rep Γ w I y vl) (hh:Rep Γ w I z vh) (hm:Rep Γ w I u vm)
  (hp' : slice3 hp x (idx y) (idx z) (idx u)=some r):∃ q,(Instr.sliceAt t v (some vl) (some vh) (some vm)).run P w=.ok q w∧Rep Γ w I r q:=by
 obtain⟨i,hi⟩:=hi;unfold slice3 at hp';obtain⟨l,h1,hp'⟩:=Za hp';obtain⟨hI,h2,hp'⟩:=Za hp';obtain⟨m,h3,hp'⟩:=Za hp';obtain⟨n,h4,hp'⟩:=Za hp';split at hp'
 ·rename_i hc;cases hp';obtain⟨c1,c2,c3,c4⟩:=hc;obtain⟨a,c,rfl,hc⟩:=Zel ho h h4;obtain⟨k1,rfl⟩:=YV h1 hl;obtain⟨k2,rfl⟩:=YV h2 hh;obtain⟨k3,rfl⟩:=YV h3 hm;have e1:=run_sliceBound (P:=P) w k3 m c .slice3Acap (by omega) (by omega);have e2:=run_sliceBound (P:=P) w k2 hI m.toNat .slice3B (by omega) (by omega);have e3:=run_sliceBound (P:=P) w k1 l hI.toNat .slice3C (by omega) (by omega);exact⟨_,by simp[Instr.sliceAt,Instr.slice,run_underlying (Qy he),Instr.sliceBounds,e1,e2,e3,Qz hi];rfl,trivial⟩
 ·cases hp'
theorem Zur {t e ty:TypeId} (he:Xw P t=some e) (ho:Uo Γ w I F A hp) {x:AV} {v:Value} {n:Nat} (h:Rep Γ w I x v) (hn:ZaE hp x=some n) :
  (Builtin.len_ #[t] ty #[v]).run P w=.ok (.int .i64 n) w:=by
 obtain⟨a,c,rfl,hc⟩:=Zel ho h hn;simp[Builtin.len_,run_underlying (Qy he),goInt]
theorem ZsU {t ty:TypeId} (he:Ur P t=true) {x:AV} {v:Value} {n:Nat} (h:Rep Γ w I x v) (hn:ZqU x=some n) :
  (Builtin.len_ #[t] ty #[v]).run P w=.ok (.int .i64 n) w:=by
 unfold ZqU at hn;split at hn
 ·cases hn;obtain⟨s,rfl,rfl⟩:=ZbD h;simp[Builtin.len_,run_underlying (Wp he),goInt]
 ·cases hn
theorem Zpf {t:TypeId} (he:Ur P t=true) {lo aa : Option AV} {ab ad:Option Value} (hl:Zpc Γ w I lo ab) (hh:Zpc Γ w I aa ad)
  {x r:AV} {v:Value} (h:Rep Γ w I x v) (hp' : sliceS lo aa x=some r) :
  ∃ u,(Instr.sliceAt t v ab ad none).run P w=.ok u w∧Rep Γ w I r u:=by
 unfold sliceS at hp';split at hp'
 ·obtain⟨b,hb,hp'⟩:=Za hp';cases hp';obtain⟨s,rfl,rfl⟩:=ZbD h;have ae:s.data.toList.length=s.size:=rfl;rw[ae] at hb;obtain⟨hr,h2,h3⟩:=Za9 (P:=P) (Kh _) hl hh hb false;refine⟨.string (s.extract b.1 b.2),?_,ZnM ?_⟩
  ·simp[Instr.sliceAt,Instr.slice,run_underlying (Wp he),hr]
  ·rw[ByteArray.data_extract,Array.toList_extract,List.extract_eq_take_drop,List.drop_take]
 ·cases hp'
theorem ZjA (k:IntKind) (n:Int):Xj w I (.int k n) (.int k n):=by simp[Xj,ZL]
theorem Jp (b:Bool):Xj w I (.bool b) (.bool b):=by simp[Xj,ZL]
theorem ZsV {op:BinOp} {k:IntKind} {a b:Int} {d:D} (h:V8 op k a b=some d) (t:TypeId):∃ u,(binOp op t (.int k a) (.int k b)).run P w=.ok u w∧Xj w I d u:=by
 cases op<;>simp only[V8] at h<;>first
  | (cases h;exact⟨_,by simp[binOp,Op.intArith,Op.intBits,Op.intCmp],ZjA _ _⟩)
  | (cases h;exact⟨_,by simp[binOp,Op.intArith,Op.intBits,Op.intCmp],Jp _⟩)
  | (split at h
     ·cases h
     ·rename_i hb;cases h;exact⟨_,by simp[binOp,Op.intDiv,hb],ZjA _ _⟩)
  | (cases h;done)
theorem ZjB {op:BinOp} {k k' : IntKind} {a b:Int} {d:D} (h:ZfY op k a b=some d) (t:TypeId):∃ u,(binOp op t (.int k a) (.int k' b)).run P w=.ok u w∧Xj w I d u:=by
 unfold ZfY at h;split at h
 ·cases h
 ·rename_i hb;cases op<;>simp only[] at h<;>first
   | (cases h;exact⟨_,by simp[binOp,Op.shift,hb],ZjA _ _⟩)
   | (cases h;done)
theorem ZsW {op:BinOp} {x y:ByteArray} {d:D} (h:Znh op x.data.toList y.data.toList=some d) (t:TypeId):∃ u,(binOp op t (.string x) (.string y)).run P w=.ok u w∧Xj w I d u:=by
 have e1:(x.toList==y.toList)=(x.data.toList==y.data.toList):=by rw[ByteArray.toList_eq,ByteArray.toList_eq]
 cases op<;>simp only[Znh] at h<;>first
  | (split at h
     ·rename_i hl;cases h;refine ⟨.string (x ++ y), ?_, ?_⟩
      ·have := run_string_add_sum (P := P) w x y (by
        have h1 : x.data.toList.length = x.size := rfl;have h2 : y.data.toList.length = y.size := rfl;simp only [ZoH] at hl; omega)
       simpa [binOp] using this
      ·simp [Xj, ZL]
     ·cases h)
  | (cases h;exact⟨_,by simp[binOp,Op.stringOp,e1],Jp _⟩)
  | (cases h;done)
end
end Go.Abs
set_option linter.unusedVariables false
set_option linter.unusedSimpArgs false
namespace Go.Abs
open Go
def ZjC (P:Program) (o:Oper) (a:Act) (w:World) (u:Value) (w' : World):Prop:=
 (execOp a.eval o).run P w=.ok (.value u) w'∨((execOp a.eval o).run P w=.ok .skip w'∧u=undef)
theorem ZjC.wp {P:Program} {o:Oper} {a:Act} {w w' : World} {u:Value} (h:ZjC P o a w u w') {K:Act→World→Prop} {Q:Exit→Act→World→Prop} (hk:K (a.put o.dst u) w'):o.wp P a w K Q:=by
 unfold Oper.wp;rcases h with h | ⟨h,rfl⟩
 ·rw[h];exact hk
 ·rw[h];exact hk
section
variable {P:Program} {Γ:Gh} {w:World} {I:Nat→Prop} {F A:Nat→Prop} {hp:Hp} {sl:Sl} {a:Act}
def ceV (r:AV):Zb := { eff := { val:=r },gone:=[] }
def Xx (P:Program) (Γ:Gh) (I:Nat→Prop) (o:Oper) (a:Act) (w:World) (ce:Zb):Prop:=
 ∃ u r,ZjC P o a w u w∧ce=ceV r∧Rep Γ w I r u
theorem Z9 {v:AV} {ce:Zb} (h:Qf v=some ce):ce=ceV v:=by cases h;rfl
theorem opt1_some {v:Option AV} {ce:Zb} (h:Y3 v=some ce):∃ r,v=some r∧ce=ceV r:=by
 obtain⟨r,h1,h2⟩:=Za h;exact⟨r,h1,Z9 h2⟩
theorem Zgf {o:Oper} {x:Operand} {y:Opd} (ho:o.op=.move x∨o.op=.assign x) (hs:Jg Γ w I sl a) (hc:ZO x=some y) {ce:Zb} (hv:Qf (evO sl y)=some ce):Xx P Γ I o a w ce:=by
 refine⟨a.eval x,_,.inl ?_,Z9 hv,hs.ev hc⟩;rcases ho with ho | ho<;>simp[execOp,ho]
theorem ZrA {o:Oper} {x y z:Operand} {x' y' z' : Opd} (ho:o.op=.pick x y z) (hs:Jg Γ w I sl a) (hx:ZO x=some x') (hy:ZO y=some y') (hz:ZO z=some z') {ce:Zb}
  (hv:ZcD (evO sl y') (evO sl z') (evO sl x')=some ce):Xx P Γ I o a w ce:=by
 have h1:=hs.ev hx;unfold ZcD at hv;split at hv
 ·rename_i t aa;rw[aa] at h1;have h2:=Za6 h1;split at hv
  ·rename_i ht;subst ht;exact⟨a.eval y,_,.inl (by simp[execOp,ho,h2,asBool]),Z9 hv,hs.ev hy⟩
  ·rename_i ht;simp at ht;subst ht;exact⟨a.eval z,_,.inl (by simp[execOp,ho,h2,asBool]),Z9 hv,hs.ev hz⟩
 ·cases hv
theorem ZrB {o:Oper} {t:TypeId} {x:Operand} {y:Opd} {g:Bool} (ho:o.op=.load t x) (hs:Jg Γ w I sl a) (hh:Uo Γ w I F A hp) (hg:Za7 P t=some g) (hc:ZO x=some y) {ce:Zb}
  (hv:Y3 (Wa hp g (P.cellsOf t) (evO sl y))=some ce):Xx P Γ I o a w ce:=by
 obtain⟨r,h1,h2⟩:=opt1_some hv;obtain⟨u,h3,h4⟩:=ZnP (P:=P) hg hh (hs.ev hc) h1;exact⟨u,r,.inl (by simp[execOp,ho,h3]),h2,h4⟩
theorem ZkL {o:Oper} {x:Operand} {y:Opd} (ho:o.op=.nilCheck x) (hs:Jg Γ w I sl a) (hc:ZO x=some y) {ce:Zb} (hv:Uq (evO sl y)=some ce):Xx P Γ I o a w ce:=by
 have h1:=hs.ev hc;unfold Uq at hv;split at hv
 ·rename_i h;rw[h] at h1;obtain⟨b,h2,h3⟩:=h1;exact⟨_,_,.inl (by simp[execOp,ho,h3]),Z9 hv,b,h2,rfl⟩
 ·rename_i h;rw[h] at h1;obtain⟨b,o1,n,c,h2,h3,h4⟩:=h1;exact⟨_,_,.inl (by simp[execOp,ho,h4]),Z9 hv,b,o1,n,c,h2,h3,rfl⟩
 ·rename_i h;rw[h] at h1;obtain⟨b,o',vs,h2,h3⟩:=h1;exact⟨_,_,.inl (by simp[execOp,ho,h2]),Z9 hv,b,o',vs,rfl,h3⟩
 ·rename_i h;rw[h] at h1;obtain⟨us,h2,h3⟩:=h1;exact⟨_,_,.inl (by simp[execOp,ho,h2]),Z9 hv,us,rfl,h3⟩
 ·cases hv
theorem Zg5 {op:BinOp} {t:TypeId} {x y:Operand} {u v:Value} (hu:∀ c,u≠.agg c) (hn:u≠.nilIface):(eqGuard op t x y u v).run P w=.ok () w:=by
 unfold eqGuard;cases op<;>simp<;>(cases u<;>simp at hu hn ⊢)
theorem ZmE {t:TypeId} (h:P.underlying t=some .bool) (x y:Bool):(binOp .eql t (.bool x) (.bool y)).run P w=.ok (.bool (x==y)) w:=by
 have h1:binOp .eql t (.bool x) (.bool y)=(do let r ← Op.equalIn (9999+1) t (.bool x) (.bool y);pure (.bool r)):=rfl;rw[h1,Sem.run_bind,run_equalIn_bool' w 9999 t x y h];rfl
theorem ZmF {t:TypeId} (h:P.underlying t=some .bool) (x y:Bool):(binOp .neq t (.bool x) (.bool y)).run P w=.ok (.bool (!(x==y))) w:=by
 have h1:binOp .neq t (.bool x) (.bool y)=(do let r ← Op.equalIn (9999+1) t (.bool x) (.bool y);pure (.bool (!r))):=rfl;rw[h1,Sem.run_bind,run_equalIn_bool' w 9999 t x y h];rfl
theorem ZmG {t:TypeId} (h:Zdk P t=true):P.underlying t=some .bool:=by
 unfold Zdk at h;split at h
 ·assumption
 ·cases h
theorem ZsX {o:Oper} {op:BinOp} {t ab : TypeId} {x y:Operand} {x' y' : Opd} (ho:o.op=.binOp op t x y ab) (hs:Jg Γ w I sl a) (hx:ZO x=some x') (hy:ZO y=some y') {ce:Zb}
  (hv:Zei op (Zdk P t) (evO sl x') (evO sl y')=some ce):Xx P Γ I o a w ce:=by
 have h1:=hs.ev hx;have h2:=hs.ev hy;have aa:∀ {d:D} {u:Value},(∀ c,a.eval x≠.agg c)→a.eval x≠.nilIface→(binOp op t (a.eval x) (a.eval y)).run P w=.ok u w→Xj w I d u→ce=ceV (.d d)→Xx P Γ I o a w ce:=
  fun h3 h4 h5 h6 h7=>⟨_,_,.inl (by simp[execOp,ho,Zg5 h3 h4,h5]),h7,QR.2 h6⟩
 unfold Zei at hv;split at hv
 ·rename_i p q hp' hq;rw[hp'] at h1;rw[hq] at h2;have e1:=Za6 h1;have e2:=Za6 h2;split at hv
  ·rename_i hb;have hu:=ZmG hb;obtain⟨r,h3,h4⟩:=opt1_some hv;unfold ZkX at h3;split at h3
   ·cases h3;exact aa (by simp[e1]) (by simp[e1]) (by rw[e1,e2];exact ZmE hu _ _) (Jp _) h4
   ·cases h3;exact aa (by simp[e1]) (by simp[e1]) (by rw[e1,e2];exact ZmF hu _ _) (Jp _) h4
   ·cases h3
  ·cases hv
 ·obtain⟨r,h3,h4⟩:=opt1_some hv;unfold vbin at h3;split at h3
  ·rename_i k p k' q hp' hq;rw[hp'] at h1;rw[hq] at h2;have e1:=Jh h1;have e2:=Jh h2;unfold WQ at h3;split at h3
   ·obtain⟨d,h5,h6⟩:=Za h3;cases h6;obtain⟨u,h7,h8⟩:=ZjB (P:=P) (w:=w) (I:=I) (k':=k') h5 t;exact aa (by simp[e1]) (by simp[e1]) (by rw[e1,e2];exact h7) h8 h4
   ·obtain⟨d,h5,h6⟩:=Za h3;cases h6;obtain⟨u,h7,h8⟩:=ZjB (P:=P) (w:=w) (I:=I) (k':=k') h5 t;exact aa (by simp[e1]) (by simp[e1]) (by rw[e1,e2];exact h7) h8 h4
   ·split at h3
    ·rename_i hk;subst hk;obtain⟨d,h5,h6⟩:=Za h3;cases h6;obtain⟨u,h7,h8⟩:=ZsV (P:=P) (w:=w) (I:=I) h5 t;exact aa (by simp[e1]) (by simp[e1]) (by rw[e1,e2];exact h7) h8 h4
    ·cases h3
  ·rename_i p q hp' hq;rw[hp'] at h1;rw[hq] at h2;obtain⟨s1,e1,rfl⟩:=ZbD h1;obtain⟨s2,e2,rfl⟩:=ZbD h2;obtain⟨d,h5,h6⟩:=Za h3;cases h6;obtain⟨u,h7,h8⟩:=ZsW (P:=P) (w:=w) (I:=I) h5 t;exact aa (by simp[e1]) (by simp[e1]) (by rw[e1,e2];exact h7) h8 h4
  ·cases h3
theorem Zus {o:Oper} {op:UnOp} {t:TypeId} {x:Operand} {x' : Opd} (ho:o.op=.unOp op t x) (hs:Jg Γ w I sl a) (hx:ZO x=some x') {ce:Zb}
  (hv:Y3 (vun op (evO sl x'))=some ce):Xx P Γ I o a w ce:=by
 have h1:=hs.ev hx;obtain⟨r,h3,h4⟩:=opt1_some hv;unfold vun at h3;split at h3
 ·rename_i hq;rw[hq] at h1;have e1:=Jh h1;unfold neg1 at h3;split at h3
  ·cases h3;exact⟨_,_,.inl (by simp[execOp,ho,e1,Op.unary,Op.intArith]),h4,JL _ _⟩
  ·cases h3
 ·rename_i hq;rw[hq] at h1;have e1:=Za6 h1;unfold not1 at h3;split at h3
  ·cases h3;exact⟨_,_,.inl (by simp[execOp,ho,e1,Op.unary]),h4,Zrn _⟩
  ·cases h3
 ·cases h3
theorem ZrC {o:Oper} {s d:TypeId} {x:Operand} {x' : Opd} {c:COp} (ho:o.op=.convert s d x) (hs:Jg Γ w I sl a) (hx:ZO x=some x') (hc:Zqk x' (Ur P s) (Ur P d) (Zry P s) (Zry P d)=some c)
  {C:Orc} {M:Zf} {base:Nat} {ce:Zb} (hv:vop C M sl hp base c=some ce):Xx P Γ I o a w ce:=by
 have h1:=hs.ev hx;unfold Zqk at hc;split at hc
 ·rename_i k k' hk aa;cases hc;simp only[vop,Abs.convI] at hv;split at hv
  ·rename_i hq;rw[hq] at h1;have e1:=Jh h1;exact⟨_,_,.inl (by simp[execOp,ho,e1,convert,run_underlying (Zli hk),run_underlying (Zli aa),Conv.intToInt]),Z9 hv,JL _ _⟩
  ·cases hv
 ·split at hc
  ·rename_i hh;cases hc;simp at hh;simp only[vop,Abs.convS] at hv;split at hv
   ·rename_i hq;rw[hq] at h1;obtain⟨s1,e1,e2⟩:=ZbD h1;exact⟨_,_,.inl (by simp[execOp,ho,e1,convert,run_underlying (Wp hh.1),run_underlying (Wp hh.2)]),Z9 hv,ZnM e2⟩
   ·cases hv
  ·cases hc
theorem ZrD {o:Oper} {t:TypeId} {f:Nat} {x:Operand} {x' : Opd} {q:Nat×TypeId} {g:Bool} (ho:o.op=.field t x f) (hs:Jg Γ w I sl a) (hq:ZbJ P t f=some q) (hg:Za7 P q.2=some g) (hx:ZO x=some x')
  {ce:Zb} (hv:Y3 (Zfe g (P.cellsOf q.2) q.1 (evO sl x'))=some ce):Xx P Γ I o a w ce:=by
 obtain⟨r,h3,h4⟩:=opt1_some hv;obtain⟨cs,u,h5,h6,h7⟩:=ZnO (P:=P) hg (hs.ev hx) h3;obtain⟨fs,y,h8,h9,aa,ab,ad⟩:=Zcv hq;refine⟨u,r,.inl ?_,h4,h7⟩;simp[execOp,ho,Instr.field,run_underlying h8,h9,h5,asAgg,aa,ab,h6]
theorem Zpg {o:Oper} {t:TypeId} {f:Nat} {x:Operand} {x' : Opd} {q:Nat×TypeId} (ho:o.op=.fieldAddr t x f) (hs:Jg Γ w I sl a) (hq:ZbJ P t f=some q) (hx:ZO x=some x')
  {ce:Zb} (hv:Vl q.1 (evO sl x')=some ce):Xx P Γ I o a w ce:=by
 obtain⟨u,r,h1,h2,h3⟩:=Zrp (P:=P) hq (hs.ev hx) hv;exact⟨u,r,.inl (by simp[execOp,ho,h1]),h2,h3⟩
theorem ZsY {o:Oper} {i:Nat} {x:Operand} {x' : Opd} (ho:o.op=.extract x i) (hs:Jg Γ w I sl a) (hx:ZO x=some x')
  {ce:Zb} (hv:ZnV i (evO sl x')=some ce):Xx P Γ I o a w ce:=by
 have h1:=hs.ev hx;unfold ZnV at hv;split at hv
 ·rename_i vs hq;rw[hq] at h1;obtain⟨us,h2,h3⟩:=h1;obtain⟨r,h4,h5⟩:=opt1_some hv;obtain⟨u,h6,h7⟩:=h3.get i r h4;have aa : us[i]?=some u:=by simpa using h6
  exact⟨u,r,.inl (by simp[execOp,ho,Instr.extract,h2,aa]),h5,h7.rep⟩
 ·cases hv
theorem ZjD {x y:AV} {u v:Value} {ce:Zb} (hx:Rep Γ w I x u) (hy:Rep Γ w I y v) (at_:Array TypeId) (ty:TypeId) :
  (Zg0 x y=some ce→∃ z r,(Builtin.min_ at_ ty #[u,v]).run P w=.ok z w∧ce=ceV r∧Rep Γ w I r z) ∧
  (Zg1 x y=some ce→∃ z r,(Builtin.max_ at_ ty #[u,v]).run P w=.ok z w∧ce=ceV r∧Rep Γ w I r z):=by
 constructor
 ·intro h;unfold Zg0 at h;split at h
  ·split at h
   ·rename_i hk;subst hk;rw[Jh hx,Jh hy];exact⟨_,_,by simp[Builtin.min_,Builtin.min2];rfl,Z9 h,JL _ _⟩
   ·cases h
  ·cases h
 ·intro h;unfold Zg1 at h;split at h
  ·split at h
   ·rename_i hk;subst hk;rw[Jh hx,Jh hy];exact⟨_,_,by simp[Builtin.max_,Builtin.max2];rfl,Z9 h,JL _ _⟩
   ·cases h
  ·cases h
theorem Zph {o:Oper} {t:TypeId} {x i:Operand} {x' i' : Opd} {c:COp} (ho:o.op=.index t x i) (hs:Jg Γ w I sl a) (hx:ZO x=some x') (hi:ZO i=some i')
  (hc:Zmz P x' i' (Ur P t) (Zej P t)=some c) {C:Orc} {M:Zf} {base:Nat} {ce:Zb} (hv:vop C M sl hp base c=some ce):Xx P Γ I o a w ce:=by
 have h1:=hs.ev hx;have h2:=hs.ev hi;unfold Zmz at hc;split at hc
 ·rename_i aa;cases hc;simp only[vop] at hv;obtain⟨n,hn,hv⟩:=Za hv;obtain⟨k,e2⟩:=YV hn h2;unfold Zo7 at hv;split at hv
  ·rename_i s hq;rw[hq] at h1;obtain⟨s1,e1,rfl⟩:=ZbD h1;unfold ZnU at hv;split at hv
   ·rename_i h0;obtain⟨b,hb,hv⟩:=Za hv;have ab : s1[n.toNat]?=some b:=by
     have:s1.data[n.toNat]?=some b:=by simpa using hb
     exact this
    exact⟨_,_,.inl (by simp[execOp,ho,e1,e2,Instr.index,asIntOf,run_underlying (Wp aa),h0,ab]),Z9 hv,JL _ _⟩
   ·cases hv
  ·cases hv
 ·obtain⟨q,hq,hc⟩:=Za hc;obtain⟨g,hg,hc⟩:=Za hc;cases hc;simp only[vop] at hv;obtain⟨n,hn,hv⟩:=Za hv;obtain⟨k,e2⟩:=YV hn h2;unfold Zrx at hv;split at hv
  ·rename_i hb;obtain⟨r,h3,h4⟩:=opt1_some hv;obtain⟨cs,u,h5,h6,h7⟩:=ZnO (P:=P) hg h1 h3;obtain⟨ii,ad⟩:=Zdf hg;exact⟨u,r,.inl (by simp[execOp,ho,h5,e2,Instr.index,asIntOf,run_underlying (Zlj hq),hb.1,hb.2,Qz ad,h6]),h4,h7⟩
  ·cases hv
end
end Go.Abs
