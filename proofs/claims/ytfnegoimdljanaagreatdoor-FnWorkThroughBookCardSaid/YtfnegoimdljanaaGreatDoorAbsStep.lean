import Derived.Test.YtfnegoimdljanaaGreatDoorAbsExec
set_option linter.unusedSimpArgs false
set_option linter.unusedVariables false
namespace Go.Abs
open Go
section
variable {P:Program} {Γ:Gh} {w:World} {I:Nat→Prop} {F A:Nat→Prop} {hp:Hp}
def ZxD (Γ:Gh) (w:World) (I:Nat→Prop):Option AV→Option Value→Prop
 | none,none=>True
 | some x,some v=>Rep Γ w I x v
 | _,_=>False
theorem Za2.evM {sl:Sl} {a:Act} (h:Za2 Γ w I sl a) {x:Option Operand} {y:Option Opd} (hc:cOO x=some y):ZxD Γ w I (evM sl y) (x.map a.eval):=by
 cases x with
 | none=>simp only[cOO] at hc;cases hc;exact trivial
 | some x=>
  simp only[cOO] at hc;obtain⟨y',h1,hc⟩:=Za hc;cases hc;exact h.ev h1
theorem ZBi {m n c:Nat} (ab:m≤c) {x:AV} {v:Value} (h:Rep Γ w I x v) (hb:bd m x=some n) (aa:BoundsCode) :
  (Instr.sliceBound v c aa).run P w=.ok n w∧n≤m:=by
 unfold bd at hb;obtain⟨i,hi,hb⟩:=Za hb;obtain⟨k,rfl⟩:=VF hi h;split at hb
 ·rename_i hc;cases hb;refine⟨run_sliceBound w k i c aa hc.1 o_,o_⟩
 ·cases hb
theorem Zep {len ae:Nat} (af:len≤ae) {lo hi:Option AV} {ab ad:Option Value} (hl:ZxD Γ w I lo ab) (hh:ZxD Γ w I hi ad) {b:Nat×Nat} (hb:Zul len lo hi=some b) (aa:Bool) :
  (Instr.sliceBounds aa len ae ab ad none).run P w=.ok (b.1,b.2,ae) w∧b.1≤b.2∧b.2≤len:=by
 unfold Zul at hb;obtain⟨h,h1,hb⟩:=Za hb;obtain⟨l,h2,hb⟩:=Za hb;cases hb;have hH:(match ad with | some v=>Instr.sliceBound v ae (if aa then .sliceAcap else .sliceAlen) | none=>pure len:Sem Nat).run P w=.ok h w∧h≤len:=by
  cases hi with
  | none=>cases ad with
   | none=>simp only[hiOf] at h1;cases h1;exact⟨rfl,Kp _⟩
   | some v=>exact hh.elim
  | some x=>cases ad with
   | none=>exact hh.elim
   | some v=>exact ZBi af hh h1 _
 have hL:(match ab with | some v=>Instr.sliceBound v h .sliceB | none=>pure 0:Sem Nat).run P w=.ok l w∧l≤h:=by
  cases lo with
  | none=>cases ab with
   | none=>simp only[loOf] at h2;cases h2;exact⟨rfl,Kaj _⟩
   | some v=>exact hl.elim
  | some x=>cases ab with
   | none=>exact hl.elim
   | some v=>exact ZBi (Kp _) hl h2 _
 refine⟨?_,hL.2,hH.2⟩;unfold Instr.sliceBounds;cases ad<;>cases ab<;>simp only[] at hH hL<;>simp[hH.1,hL.1]<;>(simp at hH hL;simp[hH,hL])
theorem Zux (a:Addr) (x y:Nat):(a.add x).add y=a.add (x+y):=by
 unfold Addr.add;by_cases hx:x=0
 ·simp[hx]
 ·by_cases hy:y=0
  ·simp[hx,hy]
  ·have:x+y≠0:=o_
   simp[hx,hy,this,KS]
theorem Zdy (a:Addr):a.add 0=a:=by simp[Addr.add]
theorem Zz0 {t e:TypeId} (he:X4 P t=some e) (hi:∃ i,P.info? e=some i) (ho:JF Γ w I F A hp) {lo aj : Option AV} {ab aa:Option Value} (hl:ZxD Γ w I lo ab) (hh:ZxD Γ w I aj aa)
  {x r:AV} {v:Value} (h:Rep Γ w I x v) (hp' : Vy hp (P.cellsOf e) lo aj x=some r) :
  ∃ u,(Instr.sliceAt t v ab aa none).run P w=.ok u w∧Rep Γ w I r u:=by
 obtain⟨i,hi⟩:=hi;have hu:=QV he;have ad:∀ (a:Option Addr) (n c:Nat) (b:Nat×Nat),(Instr.sliceBounds true n c ab aa none).run P w=.ok (b.1,b.2,c) w →
   (Instr.sliceAt t (.slice a n c) ab aa none).run P w=.ok (.slice (if c=b.1 then a else a.map (·.add (b.1*P.cellsOf e))) (b.2-b.1) (c-b.1)) w:=by
  intro a n c b hb;simp[Instr.sliceAt,Instr.slice,run_underlying hu,hb,QW hi]
 unfold Vy at hp';split at hp'
 ·rename_i xs;split at hp'
  ·rename_i ak;obtain⟨b,hb,hp'⟩:=Za hp';cases hp';have:=Qi.1 h;simp only[Xo,ZP] at this;obtain⟨a,c,hv,hc,h1⟩:=this;simp at hv;subst hv;obtain⟨hr,h2,h3⟩:=Zep (P:=P) hc hl hh hb true;refine⟨_,ad _ _ _ _ hr,Qi.2 ?_⟩;have al:((xs.take b.2).drop b.1).length=b.2-b.1:=by simp;omega
   refine⟨_,c-b.1,by rw[al],o_,?_⟩;by_cases hz:b.2=b.1
   ·left;exact Ks o_
   ·right
    rcases h1 with h1 | ⟨bb,o,sz,rfl,hI,h0,am⟩
    ·subst h1;simp at h3;omega
    ·have aq:¬c=b.1:=o_
     obtain⟨y,hy⟩:∃ y,xs[0]?=some y:=⟨_,KK o_⟩
     have ae:sz=P.cellsOf e:=by
      obtain⟨vs,h4,h5,h6⟩:=X3.1 am 0 y hy;rw[← h4,h6.length];exact ak y (Kb hy)
     subst ae;refine⟨bb,o+b.1*P.cellsOf e,P.cellsOf e,by simp[aq,VX],hI,h0,?_⟩;rw[X3] at am ⊢;intro j z ag;rw[Lo,Lp] at ag;split at ag
     ·obtain⟨vs,h4,h5,h6⟩:=am _ z ag;exact⟨vs,h4,by rw[KR,← KS] at h5;exact h5,h6⟩
     ·cases ag
  ·cases hp'
 ·obtain⟨b,hb,hp'⟩:=Za hp';cases hp';obtain⟨a,rfl⟩:=h;obtain⟨hr,h2,h3⟩:=Zep (P:=P) (Kp 0) hl hh hb true;have hb1:b.1=0:=o_
  have hb2:b.2=0:=o_
  exact⟨_,ad _ _ _ _ hr,a,by simp[hb1,hb2]⟩
 ·rename_i id;obtain⟨a,n,c,sz,hb,rfl⟩:=h;unfold ZbI at hp';split at hp'
  ·rename_i ar xs ex fz an;split at hp'
   ·rename_i ae;obtain⟨a',n',c',af,hn,ah⟩:=ho id _ an;rw[hb] at af;cases af;subst ae;have ap:n≤c:=by
     rcases ah with ah | ⟨g,cur,e',_,_,_,ah,_⟩<;>omega
    unfold ZvH at hp';split at hp'
    ·cases hp';cases ab with
     | some v=>exact hl.elim
     | none=>cases aa with
      | some v=>exact hh.elim
      | none=>
       refine⟨_,ad _ _ _ (0,n) (by simp[Instr.sliceBounds]),a,n,c,_,hb,?_⟩;simp[Zdy]
    ·obtain⟨b,hb2,hp'⟩:=Za hp';cases hp';rw[← hn] at hb2;obtain⟨hr,h2,h3⟩:=Zep (P:=P) ap hl hh hb2 true;refine⟨_,ad _ _ _ _ hr,a,n,c,_,_,hb,o_,ap,rfl,?_,?_⟩
     ·intro h0;simp[h0,Zdy]
     ·by_cases ai:c=b.1
      ·right;exact ai
      ·left;simp[ai]
   ·cases hp'
  ·cases hp'
 ·rename_i id off n;obtain⟨a0,m,c,sz,a,hb,h1,h2,rfl,h3,h4⟩:=h;unfold JG at hp';split at hp'
  ·rename_i ar xs ex fz an;split at hp'
   ·rename_i ae;obtain⟨b,hb2,hp'⟩:=Za hp';cases hp';obtain⟨a',n',c',af,hn,ah⟩:=ho id _ an;rw[hb] at af;cases af;subst ae;have au:(Instr.sliceBounds true n (c-off) ab aa none).run P w=.ok (b.1,b.2,c-off) w∧b.1≤b.2∧off+b.2≤m:=by
     cases aj with
     | none=>
      obtain⟨h7,h8,h9⟩:=Zep (P:=P) (show n≤c-off by omega) hl hh hb2 true;exact⟨h7,h8,o_⟩
     | some hv=>
      cases aa with
      | none=>exact hh.elim
      | some vh=>
       obtain⟨h7,h8,h9⟩:=Zep (P:=P) (show xs.length-off≤c-off by omega) hl hh hb2 true;exact⟨h7,h8,o_⟩
    obtain⟨hr,h5,h6⟩:=au;refine⟨_,ad _ _ _ _ hr,a0,m,c,_,_,hb,o_,h2,by rw[Nat.sub_sub],?_,?_⟩
    ·intro h0;have ao:off=0:=o_
     have av:b.1=0:=o_
     simp[av,Zdy,h3 ao]
    ·by_cases ai:c-off=b.1
     ·right;omega
     ·left
      simp only[ai,Km];rcases h4 with h4 | h4
      ·subst h4;cases a0<;>simp[Zux,KR]
      ·omega
   ·cases hp'
  ·cases hp'
 ·cases hp'
theorem ZjO (ho:JF Γ w I F A hp) {x:AV} {v:Value} {n:Nat} (h:Rep Γ w I x v) (hn:Zdq hp x=some n):∃ a c,v=.slice a n c∧n≤c:=by
 unfold Zdq at hn;split at hn
 ·cases hn;have:=Qi.1 h;simp only[Xo,ZP] at this;obtain⟨a,c,hv,hc,h1⟩:=this;simp at hv;exact⟨a,c,hv,hc⟩
 ·cases hn;obtain⟨a,rfl⟩:=h;exact⟨a,0,rfl,Kp _⟩
 ·rename_i id;obtain⟨xs,hx,hn⟩:=Za hn;cases hn;obtain⟨a,n,c,sz,hb,rfl⟩:=h;unfold ZpN at hx;split at hx
  ·rename_i ad;cases hx;obtain⟨a',n',c',ab,hn,aa⟩:=ho id _ ad;rw[hb] at ab;cases ab;refine⟨a,c,by rw[hn],?_⟩;rcases aa with aa | ⟨g,cur,e',_,_,_,aa,_⟩<;>omega
  ·rename_i ad;cases hx;obtain⟨a',n',c',ab,⟨hn,aa⟩,_⟩:=ho id _ ad;rw[hb] at ab;cases ab;refine⟨a,c,by rw[hn],?_⟩;rcases aa with aa | ⟨g,cur,e',_,_,_,_,aa,_⟩<;>omega
  ·cases hx
 ·cases hn;obtain⟨a0,m,c,sz,a,hb,h1,h2,rfl,_⟩:=h;exact⟨a,_,rfl,o_⟩
 ·cases hn
theorem ZxE {t e:TypeId} (he:X4 P t=some e) (hi:∃ i,P.info? e=some i) (ho:JF Γ w I F A hp) {x y z r:AV} {v vh vm:Value} (h:Rep Γ w I x v) (hh:Rep Γ w I y vh) (hm:Rep Γ w I z vm)
  (hp' : slice0 hp x (idx y) (idx z)=some r):∃ u,(Instr.sliceAt t v none (some vh) (some vm)).run P w=.ok u w∧Rep Γ w I r u:=by
 obtain⟨i,hi⟩:=hi;unfold slice0 at hp';split at hp'
 ·rename_i h1 h2;obtain⟨n,hn,hp'⟩:=Za hp';cases hp';obtain⟨a,c,rfl,hc⟩:=ZjO ho h hn;obtain⟨k1,rfl⟩:=VF h1 hh;obtain⟨k2,rfl⟩:=VF h2 hm;refine⟨.slice a 0 0,?_,a,rfl⟩;simp[Instr.sliceAt,Instr.slice,run_underlying (QV he),Instr.sliceBounds,Instr.sliceBound,asIntOf,QW hi]
 ·cases hp'
theorem ZxF {t e:TypeId} (he:X4 P t=some e) (hi:∃ i,P.info? e=some i) (ho:JF Γ w I F A hp) {x y z u r:AV} {v vl vh vm:Value} (h:Rep Γ w I x v) (hl:Rep Γ w I y vl) (hh:Rep Γ w I z vh) (hm:Rep Γ w I u vm)
  (hp' : slice3 hp x (idx y) (idx z) (idx u)=some r):∃ q,(Instr.sliceAt t v (some vl) (some vh) (some vm)).run P w=.ok q w∧Rep Γ w I r q:=by
 obtain⟨i,hi⟩:=hi;unfold slice3 at hp';obtain⟨l,h1,hp'⟩:=Za hp';obtain⟨hI,h2,hp'⟩:=Za hp';obtain⟨m,h3,hp'⟩:=Za hp';obtain⟨n,h4,hp'⟩:=Za hp';split at hp'
 ·rename_i hc;cases hp';obtain⟨c1,c2,c3,c4⟩:=hc;obtain⟨a,c,rfl,hc⟩:=ZjO ho h h4;obtain⟨k1,rfl⟩:=VF h1 hl;obtain⟨k2,rfl⟩:=VF h2 hh;obtain⟨k3,rfl⟩:=VF h3 hm;have e1:=run_sliceBound (P:=P) w k3 m c .slice3Acap o_ o_;have e2:=run_sliceBound (P:=P) w k2 hI m.toNat .slice3B o_ o_;have e3:=run_sliceBound (P:=P) w k1 l hI.toNat .slice3C o_ o_;exact⟨_,by simp[Instr.sliceAt,Instr.slice,run_underlying (QV he),Instr.sliceBounds,e1,e2,e3,QW hi];rfl,trivial⟩
 ·cases hp'
theorem ZCJ {t e ty:TypeId} (he:X4 P t=some e) (ho:JF Γ w I F A hp) {x:AV} {v:Value} {n:Nat} (h:Rep Γ w I x v) (hn:Zdq hp x=some n) :
  (Builtin.len_ #[t] ty #[v]).run P w=.ok (.int .i64 n) w:=by
 obtain⟨a,c,rfl,hc⟩:=ZjO ho h hn;simp[Builtin.len_,run_underlying (QV he),goInt]
theorem ZBj {t ty:TypeId} (he:JI P t=true) {x:AV} {v:Value} {n:Nat} (h:Rep Γ w I x v) (hn:ZzO x=some n) :
  (Builtin.len_ #[t] ty #[v]).run P w=.ok (.int .i64 n) w:=by
 unfold ZzO at hn;split at hn
 ·cases hn;obtain⟨s,rfl,rfl⟩:=ZeO h;simp[Builtin.len_,run_underlying (Uq he),goInt]
 ·cases hn
theorem ZxG {t:TypeId} (he:JI P t=true) {lo aa : Option AV} {ab ad:Option Value} (hl:ZxD Γ w I lo ab) (hh:ZxD Γ w I aa ad)
  {x r:AV} {v:Value} (h:Rep Γ w I x v) (hp' : sliceS lo aa x=some r) :
  ∃ u,(Instr.sliceAt t v ab ad none).run P w=.ok u w∧Rep Γ w I r u:=by
 unfold sliceS at hp';split at hp'
 ·obtain⟨b,hb,hp'⟩:=Za hp';cases hp';obtain⟨s,rfl,rfl⟩:=ZeO h;have ae:s.data.toList.length=s.size:=rfl;rw[ae] at hb;obtain⟨hr,h2,h3⟩:=Zep (P:=P) (Kp _) hl hh hb false;refine⟨.string (s.extract b.1 b.2),?_,ZvA ?_⟩
  ·simp[Instr.sliceAt,Instr.slice,run_underlying (Uq he),hr]
  ·rw[ByteArray.data_extract,Array.toList_extract,List.extract_eq_take_drop,List.drop_take]
 ·cases hp'
theorem Zqg (k:IntKind) (n:Int):Xo w I (.int k n) (.int k n):=by simp[Xo,ZP]
theorem Zbn (b:Bool):Xo w I (.bool b) (.bool b):=by simp[Xo,ZP]
theorem ZBk {op:BinOp} {k:IntKind} {a b:Int} {d:D} (h:WI op k a b=some d) (t:TypeId):∃ u,(binOp op t (.int k a) (.int k b)).run P w=.ok u w∧Xo w I d u:=by
 cases op<;>simp only[WI] at h<;>first
  | (cases h;exact⟨_,by simp[binOp,Op.intArith,Op.intBits,Op.intCmp],Zqg _ _⟩)
  | (cases h;exact⟨_,by simp[binOp,Op.intArith,Op.intBits,Op.intCmp],Zbn _⟩)
  | (split at h
     ·cases h
     ·rename_i hb;cases h;exact⟨_,by simp[binOp,Op.intDiv,hb],Zqg _ _⟩)
  | (cases h;done)
theorem Zqh {op:BinOp} {k k' : IntKind} {a b:Int} {d:D} (h:Zmh op k a b=some d) (t:TypeId):∃ u,(binOp op t (.int k a) (.int k' b)).run P w=.ok u w∧Xo w I d u:=by
 unfold Zmh at h;split at h
 ·cases h
 ·rename_i hb;cases op<;>simp only[] at h<;>first
   | (cases h;exact⟨_,by simp[binOp,Op.shift,hb],Zqg _ _⟩)
   | (cases h;done)
theorem ZBl {op:BinOp} {x y:ByteArray} {d:D} (h:ZvF op x.data.toList y.data.toList=some d) (t:TypeId):∃ u,(binOp op t (.string x) (.string y)).run P w=.ok u w∧Xo w I d u:=by
 have e1:(x.toList==y.toList)=(x.data.toList==y.data.toList):=by rw[ByteArray.toList_eq,ByteArray.toList_eq]
 cases op<;>simp only[ZvF] at h<;>first
  | (split at h
     ·rename_i hl;cases h;refine ⟨.string (x ++ y), ?_, ?_⟩
      ·have := run_string_add_sum (P := P) w x y (by
        have h1 : x.data.toList.length = x.size := rfl;have h2 : y.data.toList.length = y.size := rfl;simp only [Zxj] at hl; omega)
       simpa [binOp] using this
      ·simp [Xo, ZP]
     ·cases h)
  | (cases h;exact⟨_,by simp[binOp,Op.stringOp,e1],Zbn _⟩)
  | (cases h;done)
end
end Go.Abs
namespace Go.Abs
open Go
def Zqi (P:Program) (o:Oper) (a:Act) (w:World) (u:Value) (w' : World):Prop:=
 (execOp a.eval o).run P w=.ok (.value u) w'∨((execOp a.eval o).run P w=.ok .skip w'∧u=undef)
theorem Zqi.wp {P:Program} {o:Oper} {a:Act} {w w' : World} {u:Value} (h:Zqi P o a w u w') {K:Act→World→Prop} {Q:Exit→Act→World→Prop} (hk:K (a.put o.dst u) w'):o.wp P a w K Q:=by
 unfold Oper.wp;rcases h with h | ⟨h,rfl⟩
 ·rw[h];exact hk
 ·rw[h];exact hk
section
variable {P:Program} {Γ:Gh} {w:World} {I:Nat→Prop} {F A:Nat→Prop} {hp:Hp} {sl:Sl} {a:Act}
def ceV (r:AV):Ze := { eff := { val:=r },gone:=[] }
def X7 (P:Program) (Γ:Gh) (I:Nat→Prop) (o:Oper) (a:Act) (w:World) (ce:Ze):Prop:=
 ∃ u r,Zqi P o a w u w∧ce=ceV r∧Rep Γ w I r u
theorem Qr {v:AV} {ce:Ze} (h:Qp v=some ce):ce=ceV v:=by cases h;rfl
theorem opt1_some {v:Option AV} {ce:Ze} (h:VO v=some ce):∃ r,v=some r∧ce=ceV r:=by
 obtain⟨r,h1,h2⟩:=Za h;exact⟨r,h1,Qr h2⟩
theorem Zmu {o:Oper} {x:Operand} {y:Opd} (ho:o.op=.move x∨o.op=.assign x) (hs:Za2 Γ w I sl a) (hc:ZW x=some y) {ce:Ze} (hv:Qp (evO sl y)=some ce):X7 P Γ I o a w ce:=by
 refine⟨a.eval x,_,.inl ?_,Qr hv,hs.ev hc⟩;rcases ho with ho | ho<;>simp[execOp,ho]
theorem Zz1 {o:Oper} {x y z:Operand} {x' y' z' : Opd} (ho:o.op=.pick x y z) (hs:Za2 Γ w I sl a) (hx:ZW x=some x') (hy:ZW y=some y') (hz:ZW z=some z') {ce:Ze}
  (hv:ZgO (evO sl y') (evO sl z') (evO sl x')=some ce):X7 P Γ I o a w ce:=by
 have h1:=hs.ev hx;unfold ZgO at hv;split at hv
 ·rename_i t aa;rw[aa] at h1;have h2:=Zek h1;split at hv
  ·rename_i ht;subst ht;exact⟨a.eval y,_,.inl (by simp[execOp,ho,h2,asBool]),Qr hv,hs.ev hy⟩
  ·rename_i ht;simp at ht;subst ht;exact⟨a.eval z,_,.inl (by simp[execOp,ho,h2,asBool]),Qr hv,hs.ev hz⟩
 ·cases hv
theorem Zz2 {o:Oper} {t:TypeId} {x:Operand} {y:Opd} {g:Bool} (ho:o.op=.load t x) (hs:Za2 Γ w I sl a) (hh:JF Γ w I F A hp) (hg:Zem P t=some g) (hc:ZW x=some y) {ce:Ze}
  (hv:VO (WJ hp g (P.cellsOf t) (evO sl y))=some ce):X7 P Γ I o a w ce:=by
 obtain⟨r,h1,h2⟩:=opt1_some hv;obtain⟨u,h3,h4⟩:=ZvD (P:=P) hg hh (hs.ev hc) h1;exact⟨u,r,.inl (by simp[execOp,ho,h3]),h2,h4⟩
theorem ZrS {o:Oper} {x:Operand} {y:Opd} (ho:o.op=.nilCheck x) (hs:Za2 Γ w I sl a) (hc:ZW x=some y) {ce:Ze} (hv:JH (evO sl y)=some ce):X7 P Γ I o a w ce:=by
 have h1:=hs.ev hc;unfold JH at hv;split at hv
 ·rename_i h;rw[h] at h1;obtain⟨b,h2,h3⟩:=h1;exact⟨_,_,.inl (by simp[execOp,ho,h3]),Qr hv,b,h2,rfl⟩
 ·rename_i h;rw[h] at h1;obtain⟨b,o1,n,c,h2,h3,h4⟩:=h1;exact⟨_,_,.inl (by simp[execOp,ho,h4]),Qr hv,b,o1,n,c,h2,h3,rfl⟩
 ·rename_i h;rw[h] at h1;obtain⟨b,o',vs,h2,h3⟩:=h1;exact⟨_,_,.inl (by simp[execOp,ho,h2]),Qr hv,b,o',vs,rfl,h3⟩
 ·rename_i h;rw[h] at h1;obtain⟨us,h2,h3⟩:=h1;exact⟨_,_,.inl (by simp[execOp,ho,h2]),Qr hv,us,rfl,h3⟩
 ·cases hv
theorem ZnJ {op:BinOp} {t:TypeId} {x y:Operand} {u v:Value} (hu:∀ c,u≠.agg c) (hn:u≠.nilIface):(eqGuard op t x y u v).run P w=.ok () w:=by
 unfold eqGuard;cases op<;>simp<;>(cases u<;>simp at hu hn ⊢)
theorem Zuy {t:TypeId} (h:P.underlying t=some .bool) (x y:Bool):(binOp .eql t (.bool x) (.bool y)).run P w=.ok (.bool (x==y)) w:=by
 have h1:binOp .eql t (.bool x) (.bool y)=(do let r ← Op.equalIn (9999+1) t (.bool x) (.bool y);pure (.bool r)):=rfl;rw[h1,Sem.run_bind,run_equalIn_bool' w 9999 t x y h];rfl
theorem Zuz {t:TypeId} (h:P.underlying t=some .bool) (x y:Bool):(binOp .neq t (.bool x) (.bool y)).run P w=.ok (.bool (!(x==y))) w:=by
 have h1:binOp .neq t (.bool x) (.bool y)=(do let r ← Op.equalIn (9999+1) t (.bool x) (.bool y);pure (.bool (!r))):=rfl;rw[h1,Sem.run_bind,run_equalIn_bool' w 9999 t x y h];rfl
theorem ZuA {t:TypeId} (h:Zii P t=true):P.underlying t=some .bool:=by
 unfold Zii at h;split at h
 ·assumption
 ·cases h
theorem ZBm {o:Oper} {op:BinOp} {t ab : TypeId} {x y:Operand} {x' y' : Opd} (ho:o.op=.binOp op t x y ab) (hs:Za2 Γ w I sl a) (hx:ZW x=some x') (hy:ZW y=some y') {ce:Ze}
  (hv:ZgQ op (Zii P t) (evO sl x') (evO sl y')=some ce):X7 P Γ I o a w ce:=by
 have h1:=hs.ev hx;have h2:=hs.ev hy;have aa:∀ {d:D} {u:Value},(∀ c,a.eval x≠.agg c)→a.eval x≠.nilIface→(binOp op t (a.eval x) (a.eval y)).run P w=.ok u w→Xo w I d u→ce=ceV (.d d)→X7 P Γ I o a w ce:=
  fun h3 h4 h5 h6 h7=>⟨_,_,.inl (by simp[execOp,ho,ZnJ h3 h4,h5]),h7,Qi.2 h6⟩
 unfold ZgQ at hv;split at hv
 ·rename_i p q hp' hq;rw[hp'] at h1;rw[hq] at h2;have e1:=Zek h1;have e2:=Zek h2;split at hv
  ·rename_i hb;have hu:=ZuA hb;obtain⟨r,h3,h4⟩:=opt1_some hv;unfold ZsQ at h3;split at h3
   ·cases h3;exact aa (by simp[e1]) (by simp[e1]) (by rw[e1,e2];exact Zuy hu _ _) (Zbn _) h4
   ·cases h3;exact aa (by simp[e1]) (by simp[e1]) (by rw[e1,e2];exact Zuz hu _ _) (Zbn _) h4
   ·cases h3
  ·cases hv
 ·obtain⟨r,h3,h4⟩:=opt1_some hv;unfold vbin at h3;split at h3
  ·rename_i k p k' q hp' hq;rw[hp'] at h1;rw[hq] at h2;have e1:=rep_int h1;have e2:=rep_int h2;unfold UJ at h3;split at h3
   ·obtain⟨d,h5,h6⟩:=Za h3;cases h6;obtain⟨u,h7,h8⟩:=Zqh (P:=P) (w:=w) (I:=I) (k':=k') h5 t;exact aa (by simp[e1]) (by simp[e1]) (by rw[e1,e2];exact h7) h8 h4
   ·obtain⟨d,h5,h6⟩:=Za h3;cases h6;obtain⟨u,h7,h8⟩:=Zqh (P:=P) (w:=w) (I:=I) (k':=k') h5 t;exact aa (by simp[e1]) (by simp[e1]) (by rw[e1,e2];exact h7) h8 h4
   ·split at h3
    ·rename_i hk;subst hk;obtain⟨d,h5,h6⟩:=Za h3;cases h6;obtain⟨u,h7,h8⟩:=ZBk (P:=P) (w:=w) (I:=I) h5 t;exact aa (by simp[e1]) (by simp[e1]) (by rw[e1,e2];exact h7) h8 h4
    ·cases h3
  ·rename_i p q hp' hq;rw[hp'] at h1;rw[hq] at h2;obtain⟨s1,e1,rfl⟩:=ZeO h1;obtain⟨s2,e2,rfl⟩:=ZeO h2;obtain⟨d,h5,h6⟩:=Za h3;cases h6;obtain⟨u,h7,h8⟩:=ZBl (P:=P) (w:=w) (I:=I) h5 t;exact aa (by simp[e1]) (by simp[e1]) (by rw[e1,e2];exact h7) h8 h4
  ·cases h3
theorem ZCK {o:Oper} {op:UnOp} {t:TypeId} {x:Operand} {x' : Opd} (ho:o.op=.unOp op t x) (hs:Za2 Γ w I sl a) (hx:ZW x=some x') {ce:Ze}
  (hv:VO (vun op (evO sl x'))=some ce):X7 P Γ I o a w ce:=by
 have h1:=hs.ev hx;obtain⟨r,h3,h4⟩:=opt1_some hv;unfold vun at h3;split at h3
 ·rename_i hq;rw[hq] at h1;have e1:=rep_int h1;unfold neg1 at h3;split at h3
  ·cases h3;exact⟨_,_,.inl (by simp[execOp,ho,e1,Op.unary,Op.intArith]),h4,ZbC _ _⟩
  ·cases h3
 ·rename_i hq;rw[hq] at h1;have e1:=Zek h1;unfold not1 at h3;split at h3
  ·cases h3;exact⟨_,_,.inl (by simp[execOp,ho,e1,Op.unary]),h4,ZzG _⟩
  ·cases h3
 ·cases h3
theorem Zz3 {o:Oper} {s d:TypeId} {x:Operand} {x' : Opd} {c:COp} (ho:o.op=.convert s d x) (hs:Za2 Γ w I sl a) (hx:ZW x=some x') (hc:ZyK x' (JI P s) (JI P d) (ZzT P s) (ZzT P d)=some c)
  {C:Orc} {M:Zq} {base:Nat} {ce:Ze} (hv:vop C M sl hp base c=some ce):X7 P Γ I o a w ce:=by
 have h1:=hs.ev hx;unfold ZyK at hc;split at hc
 ·rename_i k k' hk aa;cases hc;simp only[vop,Abs.convI] at hv;split at hv
  ·rename_i hq;rw[hq] at h1;have e1:=rep_int h1;exact⟨_,_,.inl (by simp[execOp,ho,e1,convert,run_underlying (ZsJ hk),run_underlying (ZsJ aa),Conv.intToInt]),Qr hv,ZbC _ _⟩
  ·cases hv
 ·split at hc
  ·rename_i hh;cases hc;simp at hh;simp only[vop,Abs.convS] at hv;split at hv
   ·rename_i hq;rw[hq] at h1;obtain⟨s1,e1,e2⟩:=ZeO h1;exact⟨_,_,.inl (by simp[execOp,ho,e1,convert,run_underlying (Uq hh.1),run_underlying (Uq hh.2)]),Qr hv,ZvA e2⟩
   ·cases hv
  ·cases hc
theorem Zz4 {o:Oper} {t:TypeId} {f:Nat} {x:Operand} {x' : Opd} {q:Nat×TypeId} {g:Bool} (ho:o.op=.field t x f) (hs:Za2 Γ w I sl a) (hq:ZeX P t f=some q) (hg:Zem P q.2=some g) (hx:ZW x=some x')
  {ce:Ze} (hv:VO (ZkF g (P.cellsOf q.2) q.1 (evO sl x'))=some ce):X7 P Γ I o a w ce:=by
 obtain⟨r,h3,h4⟩:=opt1_some hv;obtain⟨cs,u,h5,h6,h7⟩:=ZvC (P:=P) hg (hs.ev hx) h3;obtain⟨fs,y,h8,h9,aa,ab,ad⟩:=ZgF hq;refine⟨u,r,.inl ?_,h4,h7⟩;simp[execOp,ho,Instr.field,run_underlying h8,h9,h5,asAgg,aa,ab,h6]
theorem ZxH {o:Oper} {t:TypeId} {f:Nat} {x:Operand} {x' : Opd} {q:Nat×TypeId} (ho:o.op=.fieldAddr t x f) (hs:Za2 Γ w I sl a) (hq:ZeX P t f=some q) (hx:ZW x=some x')
  {ce:Ze} (hv:V0 q.1 (evO sl x')=some ce):X7 P Γ I o a w ce:=by
 obtain⟨u,r,h1,h2,h3⟩:=ZzI (P:=P) hq (hs.ev hx) hv;exact⟨u,r,.inl (by simp[execOp,ho,h1]),h2,h3⟩
theorem ZBn {o:Oper} {i:Nat} {x:Operand} {x' : Opd} (ho:o.op=.extract x i) (hs:Za2 Γ w I sl a) (hx:ZW x=some x')
  {ce:Ze} (hv:ZvK i (evO sl x')=some ce):X7 P Γ I o a w ce:=by
 have h1:=hs.ev hx;unfold ZvK at hv;split at hv
 ·rename_i vs hq;rw[hq] at h1;obtain⟨us,h2,h3⟩:=h1;obtain⟨r,h4,h5⟩:=opt1_some hv;obtain⟨u,h6,h7⟩:=h3.get i r h4;have aa : us[i]?=some u:=by simpa using h6
  exact⟨u,r,.inl (by simp[execOp,ho,Instr.extract,h2,aa]),h5,h7.rep⟩
 ·cases hv
theorem Zqj {x y:AV} {u v:Value} {ce:Ze} (hx:Rep Γ w I x u) (hy:Rep Γ w I y v) (at_:Array TypeId) (ty:TypeId) :
  (ZnD x y=some ce→∃ z r,(Builtin.min_ at_ ty #[u,v]).run P w=.ok z w∧ce=ceV r∧Rep Γ w I r z) ∧
  (ZnE x y=some ce→∃ z r,(Builtin.max_ at_ ty #[u,v]).run P w=.ok z w∧ce=ceV r∧Rep Γ w I r z):=by
 constructor
 ·intro h;unfold ZnD at h;split at h
  ·split at h
   ·rename_i hk;subst hk;rw[rep_int hx,rep_int hy];exact⟨_,_,by simp[Builtin.min_,Builtin.min2];rfl,Qr h,ZbC _ _⟩
   ·cases h
  ·cases h
 ·intro h;unfold ZnE at h;split at h
  ·split at h
   ·rename_i hk;subst hk;rw[rep_int hx,rep_int hy];exact⟨_,_,by simp[Builtin.max_,Builtin.max2];rfl,Qr h,ZbC _ _⟩
   ·cases h
  ·cases h
theorem ZxI {o:Oper} {t:TypeId} {x i:Operand} {x' i' : Opd} {c:COp} (ho:o.op=.index t x i) (hs:Za2 Γ w I sl a) (hx:ZW x=some x') (hi:ZW i=some i')
  (hc:Zun P x' i' (JI P t) (ZjJ P t)=some c) {C:Orc} {M:Zq} {base:Nat} {ce:Ze} (hv:vop C M sl hp base c=some ce):X7 P Γ I o a w ce:=by
 have h1:=hs.ev hx;have h2:=hs.ev hi;unfold Zun at hc;split at hc
 ·rename_i aa;cases hc;simp only[vop] at hv;obtain⟨n,hn,hv⟩:=Za hv;obtain⟨k,e2⟩:=VF hn h2;unfold Zxk at hv;split at hv
  ·rename_i s hq;rw[hq] at h1;obtain⟨s1,e1,rfl⟩:=ZeO h1;unfold ZvJ at hv;split at hv
   ·rename_i h0;obtain⟨b,hb,hv⟩:=Za hv;have ab : s1[n.toNat]?=some b:=by
     have:s1.data[n.toNat]?=some b:=by simpa using hb
     exact this
    exact⟨_,_,.inl (by simp[execOp,ho,e1,e2,Instr.index,asIntOf,run_underlying (Uq aa),h0,ab]),Qr hv,ZbC _ _⟩
   ·cases hv
  ·cases hv
 ·obtain⟨q,hq,hc⟩:=Za hc;obtain⟨g,hg,hc⟩:=Za hc;cases hc;simp only[vop] at hv;obtain⟨n,hn,hv⟩:=Za hv;obtain⟨k,e2⟩:=VF hn h2;unfold ZzS at hv;split at hv
  ·rename_i hb;obtain⟨r,h3,h4⟩:=opt1_some hv;obtain⟨cs,u,h5,h6,h7⟩:=ZvC (P:=P) hg h1 h3;obtain⟨ii,ad⟩:=Zid hg;exact⟨u,r,.inl (by simp[execOp,ho,h5,e2,Instr.index,asIntOf,run_underlying (ZsK hq),hb.1,hb.2,QW ad,h6]),h4,h7⟩
  ·cases hv
end
end Go.Abs
namespace Go.Abs
open Go
theorem Qg {α:Type}:∀ (l:List (Nat×α)) (t:Nat) (v:α) (t' : Nat),lkp (ins l t v) t'=if t=t' then some v else lkp l t'
 | [],t,v,t'=>by simp[ins,lkp]
 | (k,x) :: r,t,v,t'=>by
  simp only[ins];split
  ·simp[lkp]
  ·split
   ·rename_i h;subst h;by_cases ht:k=t' <;> simp[lkp,ht]
   ·rename_i h;simp only[lkp,Qg r t v t'];by_cases hk:k=t'
    ·subst hk;simp[Ne.symm h]
    ·simp[hk]
theorem Zfc:∀ (l:Hp) (t t' : Nat),lkp (del l t) t'=if t=t' then none else lkp l t'
 | [],t,t'=>by simp[del,lkp]
 | (k,x) :: r,t,t'=>by
  simp only[del];split
  ·rename_i h;subst h;rw[Zfc r k t'];by_cases ht:k=t' <;> simp[lkp,ht]
  ·rename_i h;simp only[lkp,Zfc r t t'];by_cases hk:k=t'
   ·subst hk;simp[Ne.symm h]
   ·simp[hk]
theorem V4:∀ (ds:List Nat) (l:Hp) (id:Nat) (o:Zk),lkp (Z6 l ds) id=some o→lkp l id=some o∧id∉ds
 | [],l,id,o,h=>⟨h,by simp⟩
 | d :: ds,l,id,o,h=>by
  obtain⟨h1,h2⟩:=V4 ds (del l d) id o h;rw[Zfc] at h1;split at h1
  ·cases h1
  ·rename_i hd;exact⟨h1,by simp only[Kd,not_or];exact⟨fun e=>hd e.symm,h2⟩⟩
theorem JL:∀ (l:Hp) (hp:Hp) (id:Nat) (o:Zk),lkp (Zi hp l) id=some o→(id,o)∈l∨lkp hp id=some o
 | [],hp,id,o,h=>.inr h
 | (k,x) :: r,hp,id,o,h=>by
  rcases JL r (ins hp k x) id o h with h1 | h1
  ·exact .inl (Kv _ h1)
  ·rw[Qg] at h1;split at h1
   ·rename_i hk;subst hk;cases h1;exact .inl (Lh ..)
   ·exact .inr h1
theorem Zqk (ids:List Nat):∀ (l:Hp) (id:Nat),lkp (freeze ids l) id=(lkp l id).map fun o=>if ids.contains id then Y5 o else o
 | [],id=>by simp[freeze,lkp]
 | (k,x) :: r,id=>by
  simp only[freeze,lkp,Zqk ids r id];by_cases hk:k=id
  ·subst hk;simp
  ·simp[hk]
theorem Qc (ids:List Nat) (l:Hp) (id:Nat):lkp (Qm ids l) id=(lkp l id).map fun o=>if ids.contains id then Y5 o else o:=by
 unfold Qm;split
 ·simp
 ·exact Zqk _ l id
theorem ZgZ {α β:Type} (f:α→β):∀ (l:List (Nat×α)) (t:Nat),lkp (Zmg f l) t=(lkp l t).map f
 | [],t=>by simp[Zmg,lkp]
 | (k,x) :: r,t=>by
  simp only[Zmg,lkp,ZgZ f r t];by_cases hk:k=t<;>simp[hk]
theorem QC (sl:Sl) (dst:Option Nat) (v:AV) (t:Nat):gs (Zs sl dst v) t=if dst=some t then v else gs sl t:=by
 cases dst with
 | none=>simp[Zs]
 | some d=>
  simp only[Zs,gs,Qg,Option.some.injEq];by_cases h:d=t<;>simp[h,ZbE]
theorem Uu:∀ {l:Hp} {lo hi:Nat},QX lo hi l=true→∀ k o,(k,o)∈l→lo≤k∧k<hi
 | [],_,_,_,k,o,h=>by simp at h
 | (k',o') :: r,lo,hi,h,k,o,hm=>by
  simp only[QX,Kf,Ko] at h;rcases Kd.1 hm with hm | hm
  ·cases hm;exact⟨h.1.1,h.1.2⟩
  ·have:=Uu h.2 k o hm;exact⟨o_,this.2⟩
def Vi (nt:Nat) (F A I:Nat→Prop) (Γ:Gh) (w:World) (U' : Nat→Prop) (sl' : Sl) (hp' : Hp) (a' : Act) (w' : World):Prop:=
 ∃ I' Γ',Qa Γ Γ'∧ZO I I' w w'∧(∀ b,I' b→I b∨F b)∧Fr F w w'∧Sim nt F A I' Γ' U' sl' hp' a' w'
theorem ZO.refl (I:Nat→Prop) (w:World):ZO I I w w:=⟨fun _ h=>h,fun _ _=>rfl⟩
theorem ZO.trans {I I' aa : Nat→Prop} {w w' ab : World} (h:ZO I I' w w') (k:ZO I' aa w' ab):ZO I aa w ab :=
 ⟨fun b hb=>k.sub b (h.sub b hb),fun b hb=>(k.blk b (h.sub b hb)).trans (h.blk b hb)⟩
theorem Qa.refl (Γ:Gh):Qa Γ Γ:=fun _ _ h=>h
theorem ZvY (a:Act) (dst:Option Tmp) (u:Value):(a.put dst u).tmps.size=a.tmps.size:=by
 cases dst<;>simp[Act.put]
theorem Zql (a:Act) (dst:Option Tmp) (u:Value):(a.put dst u).defers=a.defers:=by
 cases dst<;>simp[Act.put]
theorem ZyQ {a:Act} {nt:Nat} (hn:a.tmps.size=nt) {dst:Option Tmp} (hd:QP nt dst=true) (u:Value) (t:Nat):(a.put dst u).tmps.getD t undef=if dst=some t then u else a.tmps.getD t undef:=by
 cases dst with
 | none=>simp[Act.put]
 | some d=>
  simp only[QP,Ko] at hd;by_cases h:d=t
  ·subst h;simp[Act.put,hn,hd]
  ·simp[Act.put,h]
section
variable {P:Program} {nt:Nat} {U:Nat→Prop} {F A I:Nat→Prop} {Γ:Gh} {sl:Sl} {hp:Hp} {a:Act} {w:World}
theorem Sim.slOK (h:Sim nt F A I Γ U sl hp a w):Za2 Γ w I sl a:=h.slots
theorem Sim.hpOK (h:Sim nt F A I Γ U sl hp a w):JF Γ w I F A hp:=h.objs
theorem Sim.more (h:Sim nt F A I Γ U sl hp a w) {U' : Nat→Prop} (hn:∀ id,U id→U' id):Sim nt F A I Γ U' sl hp a w:=
 { h with names:=fun id aa=>h.names id fun hu=>aa (hn id hu) }
theorem Sim.next (h:Sim nt F A I Γ U sl hp a w) {I' : Nat→Prop} {Γ' : Gh} {w' : World} {hp' : Hp} {v:AV} {u:Value} {dst:Option Nat} {U' : Nat→Prop}
  (hk:Qa Γ Γ') (aa:ZO I I' w w') (ae:JF Γ' w' I' F A hp')
  (af:∀ i j o o' b,lkp hp' i=some o→lkp hp' j=some o'→Blk Γ' w' i o b→Blk Γ' w' j o' b→i=j)
  (ab:∀ b,I' b→b<w'.heap.size) (ai:w.heap.size≤w'.heap.size) (ad:∀ id,¬U' id→Γ' id=none) (ag:Rep Γ' w' I' v u) (ah:QP nt dst=true) :
  Sim nt F A I' Γ' U' (Zs sl dst v) hp' (a.put dst u) w' where
 nt:=by rw[ZvY];exact h.nt
 dfr:=by rw[Zql];exact h.dfr
 slots:=fun t=>by
  rw[QC,ZyQ h.nt ah];split
  ·exact ag
  ·exact(h.slots t).mono hk aa
 objs:=ae
 inj:=af
 bound:=ab
 fresh:=fun b hb=>h.fresh b o_
 own:=h.own
 names:=ad
 glob:=h.glob.mono aa
theorem Sim.pure (h:Sim nt F A I Γ U sl hp a w) {v:AV} {u:Value} {dst:Option Nat} {U' : Nat→Prop} (hn:∀ id,U id→U' id) (aa:Rep Γ w I v u) (ab:QP nt dst=true) :
  Vi nt F A I Γ w U' (Zs sl dst v) hp (a.put dst u) w:=
 ⟨I,Γ,Qa.refl Γ,ZO.refl I w,fun _ h=>.inl h,Fr.refl F w,h.next (Qa.refl Γ) (ZO.refl I w) h.objs h.inj h.bound (Kp _) (fun id ad=>h.names id fun hu=>ad (hn id hu)) aa ab⟩
theorem ZbW {a:Option Addr} {n c sz b:Nat} (h:Zz (some (.row a n c sz))=some b):∃ ad,a=some ad∧ad.block=b∧c≠0:=by
 cases a with
 | none=>simp[Zz] at h
 | some ad=>
  simp only[Zz] at h;split at h
  ·cases h
  ·cases h;exact⟨ad,rfl,rfl,by assumption⟩
theorem ZCL {a:Option Addr} {n c sz ns g b:Nat} {xs:List D} {B:List Nat} {hl:Option Nat} (h:ZjD w I F a n c sz ns xs hl) (hg:Zz (some (.row a n c sz))=some g) (hB:ZY (Up w g hl) ns B g sz xs 0) :
  (g :: B).Nodup∧(b∈g :: B→b<w.heap.size∧¬I b∧F b):=by
 obtain⟨ad,rfl,rfl,hc⟩:=ZbW hg;rcases h.2 with h3 | ⟨g',cur,e,B',ab,h4,hw,h6,h7,h8,h9,aa,ae,af⟩
 ·exact absurd h3.2.1 hc
 ·cases ab;cases ZY.uniq hB aa;refine⟨ae,fun hb=>⟨?_,af b hb⟩⟩;rcases Kd.1 hb with rfl | hb
  ·exact(KO.1 hw).1
  ·have:=aa.lt b hb;rwa [Zxh] at this
theorem ZvZ {id:Nat} {o:Zk} (ho:YF Γ w I F A id o) {b:Nat} (hb:Zf7 Γ w id o b):b<w.heap.size∧¬I b∧F b:=by
 cases o with
 | tree sz ns xs lk=>
  obtain⟨g,B,h1,h2,h3⟩:=hb;obtain⟨a,n,c,h4,h5,_⟩:=ho;rw[h4] at h1;exact(ZCL h5 h1 h2).2 (by simp[h3])
 | _=>exact hb.elim
theorem Zf7.back {Γ' : Gh} {w' : World} {id:Nat} {o:Zk} {b:Nat} (ho:YF Γ w I F A id o) (h:Zf7 Γ' w' id o b) (hg:Γ' id=Γ id) (hw:∀ g,Zz (Γ id)=some g∨Zf7 Γ w id o g→w'.heap[g]?=w.heap[g]?):Zf7 Γ w id o b:=by
 cases o with
 | box cs=>exact h.elim
 | row sz xs ex fz=>exact h.elim
 | gone=>exact h.elim
 | tree sz ns xs lk=>
  obtain⟨g,B,h1,h2,h3⟩:=h;obtain⟨a,n,c,h4,h5,_⟩:=ho;rw[hg] at h1;refine⟨g,B,h1,?_,h3⟩;have ab:=h1;rw[h4] at ab;obtain⟨ad,rfl,rfl,hc⟩:=ZbW ab;rcases h5.2 with h6 | ⟨g',cur,e,B',ae,_,_,_,_,_,_,aa,_⟩
  ·exact absurd h6.2.1 hc
  ·cases ae;have:=aa.mono (ZeM (Y4 sz lk) (hw _ (.inl h1))) fun b hb=>ZeM (Y4 sz lk) (hw b (.inr ⟨_,B',h1,aa,hb⟩));cases ZY.uniq h2 this;exact aa
theorem Buf.is {id:Nat} {o:Zk} {b:Nat} (h:Buf Γ w id o b):∃ x te l g,o=.box [x,.bbuf te l]∧Zz (Γ id)=some g∧Zku w g 1=some b:=by
 unfold Buf at h;split at h
 ·obtain⟨g,h1,h2⟩:=h;exact⟨_,_,_,g,rfl,h1,h2⟩
 ·exact h.elim
theorem Buf.back {Γ' : Gh} {w' : World} {id:Nat} {o:Zk} {b:Nat} (h:Buf Γ' w' id o b) (hg:Γ' id=Γ id) (hw:∀ g,Zz (Γ id)=some g→w'.heap[g]?=w.heap[g]?):Buf Γ w id o b:=by
 obtain⟨x,te,l,g,rfl,h1,h2⟩:=h.is;rw[hg] at h1;refine⟨g,h1,?_⟩;unfold Zku at h2 ⊢
 rwa [World.cell?_of_block (w:=w) (a:=⟨g,1,none⟩) (hw g h1)] at h2
theorem ZBo {id:Nat} {o:Zk} (ho:YF Γ w I F A id o) {b:Nat} (hb:Buf Γ w id o b):b<w.heap.size∧¬I b∧F b∧Zz (Γ id)≠some b:=by
 obtain⟨x,te,l,g,rfl,h1,h2⟩:=hb.is;obtain⟨b',cur,e,g1,g2,g3,g4,g5,g6⟩:=ho;rw[g1] at h1;cases h1
 match hc:cur.toList,g5,g6 with
 | [u,v],g5,g6=>
  have aa:w.cell? ⟨b',1,none⟩=some v:=by
   have:cur[1]?=some v:=by rw[← LJ,hc];rfl
   simp[World.cell?,g2,this]
  rcases g6 with ⟨_,rfl⟩ | ⟨g,ab,ad,rfl,k1,k2,k3,k4,k5,k6,k7,k8,k9⟩
  ·unfold Zku at h2;rw[show ((b',e).1:Nat)=b' from rfl,aa] at h2;simp[Zvz] at h2
  have hv:w.cell? ⟨b',1,none⟩=some (.slice (some ⟨g,0,none⟩) l.length ab):=by
   have:cur[1]?=some (.slice (some ⟨g,0,none⟩) l.length ab):=by rw[← LJ,hc];rfl
   simp[World.cell?,g2,this]
  unfold Zku at h2;rw[show ((b',e).1:Nat)=b' from rfl,hv] at h2;simp only[Zvz,KE (LZ k1 k3),Km,Option.some.injEq] at h2;subst h2;refine⟨(KO.1 k2).1,k7,k8,?_⟩;rw[g1];intro e;cases e;exact k9 rfl
 | [],g5,_=>exact g5.elim
 | [_],g5,_=>exact g5.2.elim
 | _ :: _ :: _ :: _,g5,_=>exact g5.2.2.elim
theorem Blk.back {Γ' : Gh} {w' : World} {id:Nat} {o:Zk} {b:Nat} (ho:YF Γ w I F A id o) (h:Blk Γ' w' id o b) (hg:Γ' id=Γ id) (hw:∀ g,Blk Γ w id o g→w'.heap[g]?=w.heap[g]?):Blk Γ w id o b:=by
 rcases h with h | h | h
 ·exact .inl (hg ▸ h)
 ·exact .inr (.inl (h.back ho hg fun g hg=>hw g (hg.elim (fun aa=>.inl (by cases o<;>first | (simpa using aa) | exact h.elim)) fun h=>.inr (.inl h))))
 ·exact .inr (.inr (h.back hg fun g hg=>hw g (.inl (by obtain⟨_,_,_,_,rfl,_⟩:=h.is;exact hg))))
theorem Zik {o:Zk} {r:Option Ref} {b:Nat} (h:Zgq r o=some b):Zz r=some b:=by
 cases o<;>first | exact h | cases h
theorem Blk.nil {id:Nat} {o:Zk} {b:Nat} (h:Blk Γ w id o b) (h0:Zz (Γ id)=none):False:=by
 rcases h with h | h | h
 rotate_right
 ·obtain⟨x,te,l,g,rfl,h1,h2⟩:=h.is;rw[h0] at h1;cases h1
 ·have:=Zik h;rw[h0] at this;cases this
 ·cases o with
  | box cs=>exact h
  | row sz xs ex fz=>exact h
  | gone=>exact h
  | tree sz ns xs lk=>obtain⟨g,p,h1,_⟩:=h;rw[h0] at h1;cases h1
theorem Blk.isGone {id:Nat} {b:Nat} (h:Blk Γ w id .gone b):False:=by
 rcases h with h | h | h
 ·cases h
 ·exact h
 ·exact h
theorem Blk.box {id:Nat} {cs:List AV} {b:Nat} (hn:XK cs=true) (h:Blk Γ w id (.box cs) b):Zz (Γ id)=some b:=by
 rcases h with h | h | h
 ·exact h
 ·exact h.elim
 ·obtain⟨x,te,l,g,h1,_⟩:=h.is;cases h1;cases x<;>cases hn
theorem Blk.row {id sz:Nat} {xs:List D} {ex fz:Bool} {b:Nat} (h:Blk Γ w id (.row sz xs ex fz) b):Zz (Γ id)=some b:=h.elim (fun h=>h) fun h=>h.elim False.elim False.elim
theorem Zkt.mono {a:Option Addr} {n c sz:Nat} {xs:List D} {ex fz:Bool} {I' : Nat→Prop} {w' : World} (h:Zkt w I F A a n c sz xs ex fz) (aa:ZO I I' w w')
  (ab:∀ b,Zz (some (.row a n c sz))=some b→w'.heap[b]?=w.heap[b]?∧(I' b→I b)):Zkt w' I' F A a n c sz xs ex fz:=by
 obtain⟨h2,h3⟩:=h;refine⟨h2,?_⟩;rcases h3 with h3 | ⟨g,q0,cur,e,rfl,hc,hw,h4,h5,h6,h7,h8,ae,h9⟩
 ·exact .inl h3
 ·obtain⟨ad,af⟩:=ab g (by simp[Zz,KE hc]);refine .inr ⟨g,q0,cur,e,rfl,hc,by rw[ad,hw],h4,h5,h6,h7,?_,ae,?_⟩
  ·cases fz
   ·simp at h8 ⊢;exact fun hi=>h8 (af hi)
   ·simp at h8 ⊢;exact aa.sub g h8
  ·cases ex
   ·exact h9.mono' aa ad
   ·simp only[Kl] at h9 ⊢;exact h9.mono' ⟨fun b hb=>⟨aa.sub b hb.1,hb.2⟩,fun b hb=>aa.blk b hb.1⟩ ad
theorem Yj.mono {Γ' : Gh} {w' : World} {a:Option Addr} {sz ns:Nat} {xs:List D} {lk:Option (Option Nat×Nat×Nat)} (h:Yj Γ w a sz ns xs lk) (hk:Qa Γ Γ') (aa:∀ g,a=some ⟨g,0,none⟩→w'.heap[g]?=w.heap[g]?):Yj Γ' w' a sz ns xs lk:=by
 cases lk with
 | none=>trivial
 | some q=>
  obtain⟨nm,i,j⟩:=q;obtain⟨h1,h2,h3,h4⟩:=h;refine⟨h1,h2,h3,fun k ab=>?_⟩;obtain⟨g,a',n',c',h5,h6,h7⟩:=h4 k ab;exact⟨g,a',n',c',h5,hk _ _ h6,by rw[World.cell?_of_block (w:=w) (a:=⟨g,i*sz+j,none⟩) (aa g h5)];exact h7⟩
theorem Yj.lose {Γ' : Gh} {a:Option Addr} {sz ns:Nat} {xs:List D} {lk:Option (Option Nat×Nat×Nat)} (h:Yj Γ w a sz ns xs lk):Yj Γ' w a sz ns xs (ZpM lk):=by
 cases lk with
 | none=>trivial
 | some q=>
  obtain⟨nm,i,j⟩:=q;exact⟨h.1,h.2.1,h.2.2.1,fun k hk=>by cases hk⟩
theorem Uv {sz:Nat} (lk:Option (Option Nat×Nat×Nat)):Y4 sz (ZpM lk)=Y4 sz lk:=by cases lk<;>rfl
theorem Yj.kill {Γ' : Gh} {w' : World} {bad:List Nat} {a:Option Addr} {sz ns:Nat} {xs:List D} {lk:Option (Option Nat×Nat×Nat)} (h:Yj Γ w a sz ns xs lk) (hk:∀ k,k∉bad→∀ r,Γ k=some r→Γ' k=some r) (ab:∀ g,a=some ⟨g,0,none⟩→w'.heap[g]?=w.heap[g]?):Yj Γ' w' a sz ns xs (VY bad lk):=by
 cases lk with
 | none=>trivial
 | some q=>
  obtain⟨nm,i,j⟩:=q;obtain⟨h1,h2,h3,h4⟩:=h;cases nm with
  | none=>exact⟨h1,h2,h3,fun k aa=>by cases aa⟩
  | some k=>
   simp only[VY];split
   ·exact⟨h1,h2,h3,fun k aa=>by cases aa⟩
   ·rename_i hb;obtain⟨g,a',n',c',h5,h6,h7⟩:=h4 k rfl;refine⟨h1,h2,h3,fun k' aa=>?_⟩;cases aa;exact⟨g,a',n',c',h5,hk _ (by simpa using hb) _ h6,by rw[World.cell?_of_block (w:=w) (a:=⟨g,i*sz+j,none⟩) (ab g h5)];exact h7⟩
theorem Uw {sz:Nat} (bad:List Nat) (lk:Option (Option Nat×Nat×Nat)):Y4 sz (VY bad lk)=Y4 sz lk:=by
 unfold VY;split
 ·split<;>rfl
 ·rfl
theorem ZaT.mono {b:Nat} {cs:List AV} {vs:List Value} {w' : World} {I' F' : Nat→Prop} (h:ZaT w I F b cs vs)
  (hh:∀ x te l u v g,cs=[x,.bbuf te l]→vs=[u,v]→Zvz v=some g→w'.heap[g]?=w.heap[g]?∧(I' g→I g)∧(F g→F' g)):ZaT w' I' F' b cs vs:=by
 unfold ZaT at h;split at h
 ·rcases h with h | ⟨g,ab,aa,h1,k1,k2,k3,k4,k5,k6,k7,k8,k9⟩
  ·exact .inl h
  obtain⟨m1,m2,m3⟩:=hh _ _ _ _ _ g rfl rfl (by rw[h1];simp[Zvz,KE (LZ k1 k3)]);exact .inr ⟨g,ab,aa,h1,k1,by rw[m1];exact k2,k3,k4,k5,k6,fun hi=>k7 (m2 hi),m3 k8,k9⟩
 ·unfold ZaT;split
  ·rename_i x te l u v _;cases x<;>cases h
  ·exact h
theorem ZxJ {id b:Nat} {cur:Array Value} {e:TypeId} {cs:List AV} {x:AV} {te:Nat} {l:List UInt8} {u v:Value} {g:Nat} (h1:Γ id=some (.box (b,e))) (h2:w.heap[b]?=some (.cells cur e (0,0)))
  (hc:cs=[x,.bbuf te l]) (hv:cur.toList=[u,v]) (hg:Zvz v=some g):Buf Γ w id (.box cs) g:=by
 subst hc;refine⟨b,by rw[h1];rfl,?_⟩;have:cur[1]?=some v:=by rw[← LJ,hv];rfl
 unfold Zku;have aa:w.cell? ⟨b,1,none⟩=some v:=by simp[World.cell?,h2,this]
 rw[aa];exact hg
theorem ZsY {f:AV→AV} (hf:∀ v te l,f v=.bbuf te l↔v=.bbuf te l):∀ {cs:List AV},XK (cs.map f)=XK cs
 | []=>rfl
 | c :: cs=>by
  have ih:=ZsY hf (cs:=cs);by_cases h:∃ te l,c=.bbuf te l
  ·obtain⟨te,l,rfl⟩:=h;rw[Kk,(hf _ te l).2 rfl];rfl
  ·have e:∀ (v:AV) (r:List AV),(¬∃ te l,v=.bbuf te l)→XK (v :: r)=XK r:=fun v r hv=>by
    cases v<;>first | rfl | exact absurd ⟨_,_,rfl⟩ hv
   rw[Kk,e _ _ h,e _ _ (fun ⟨te,l,hh⟩=>h ⟨te,l,(hf _ _ _).1 hh⟩),ih]
theorem ZaT.map {b:Nat} {cs:List AV} {vs:List Value} {f:AV→AV} (hf:∀ v te l,f v=.bbuf te l↔v=.bbuf te l) (h:ZaT w I F b cs vs):ZaT w I F b (cs.map f) vs:=by
 unfold ZaT at h;split at h
 ·rename_i x te l u v;rw[Kk,Kk,(hf _ te l).2 rfl];exact h
 ·rename_i hn;have h' : XK (cs.map f)=true:=by rw[ZsY hf];exact h
  unfold ZaT;split
  ·rename_i x te l u v aa;rw[aa] at h';cases x<;>cases h'
  ·exact h'
theorem JM {b:Nat} {cs:List AV} {vs:List Value} (h:XK cs=true):ZaT w I F b cs vs:=by
 unfold ZaT;split
 ·rename_i x te l u v;cases x<;>cases h
 ·exact h
theorem Zil:∀ (slc:List (Option Nat)) (cs:List AV) (b:Nat),XK (mat slc cs b).1=XK cs:=by
 intro slc
 induction slc with
 | nil=>intro cs b;cases cs<;>rfl
 | cons s ts ih=>
  intro cs b;cases cs with
  | nil=>cases s<;>rfl
  | cons v vs=>
   cases s with
   | none=>cases v<;>simp only[mat,XK,ih]
   | some s=>cases v<;>simp only[mat,XK,ih]
theorem Zmv:∀ {cs:List AV},XK cs=true↔∀ te l,AV.bbuf te l∉cs
 | []=>by simp[XK]
 | c :: cs=>by
  by_cases h:∃ te l,c=.bbuf te l
  ·obtain⟨te,l,rfl⟩:=h;simp only[XK,Ka,false_iff];exact fun hh=>hh te l (Lh ..)
  ·have e:XK (c :: cs)=XK cs:=by cases c<;>first | rfl | exact absurd ⟨_,_,rfl⟩ h
   rw[e,Zmv];refine forall_congr' fun te=>forall_congr' fun l=>not_congr ?_;rw[Kd];exact⟨.inr,fun hh=>hh.elim (fun hh=>absurd ⟨te,l,hh.symm⟩ h) fun hh=>hh⟩
theorem Za6 {cs vs:List AV} {off:Nat} (h1:XK cs=true) (h2:XK vs=true):XK (Zw cs off vs)=true:=by
 rw[Zmv] at h1 h2 ⊢;intro te l hm;unfold Zw at hm;rcases Kh.1 hm with hm | hm
 ·rcases Kh.1 hm with hm | hm
  ·exact h1 te l (KY hm)
  ·exact h2 te l hm
 ·exact h1 te l (L3 hm)
theorem Zao:∀ {vs:List AV},XA vs=true→XK vs=true
 | [],_=>rfl
 | v :: vs,h=>by
  simp only[XA,Kf] at h;have:=Zao h.2;cases v<;>first | exact this | (cases h.1)
theorem Zv0 {id:Nat} {cs:List AV} {b:Nat} (hn:XK cs=true) (h:Buf Γ w id (.box cs) b):False:=by
 obtain⟨x,te,l,g,h1,_⟩:=h.is;cases h1;cases x<;>cases hn
theorem Uh (g:List Nat) (v:AV) (te:Nat) (l:List UInt8):ZS g v=.bbuf te l↔v=.bbuf te l:=by
 constructor
 ·intro h;cases v<;>simp only[ZS,Qb] at h<;>first | exact h | (cases h;done) | (split at h<;>cases h)
 ·rintro rfl;rfl
theorem Zbo (g:Nat→Nat) (v:AV) (te:Nat) (l:List UInt8):Zel g v=.bbuf te l↔v=.bbuf te l:=by
 constructor
 ·intro h;cases v<;>simp only[Zel,ZeR] at h<;>first | exact h | (cases h;done)
 ·rintro rfl;rfl
theorem Buf.unmap {id:Nat} {cs:List AV} {f:AV→AV} (hf:∀ v te l,f v=.bbuf te l↔v=.bbuf te l) {b:Nat} (h:Buf Γ w id (.box (cs.map f)) b):Buf Γ w id (.box cs) b:=by
 obtain⟨x,te,l,g,h1,h2,h3⟩:=h.is
 match cs,h1 with
 | [],h1=>cases h1
 | [_],h1=>simp at h1
 | _ :: _ :: _ :: _,h1=>simp at h1
 | [y,z],h1=>
  simp only[Kk,Kt,Zk.box.injEq,List.cons.injEq,and_true] at h1;rw[(hf _ _ _).1 h1.2];exact⟨g,h2,h3⟩
theorem Buf.ren {Γ' : Gh} {id aa : Nat} {o:Zk} {b:Nat} (h:Buf Γ w id o b) (hg:Γ' aa=Γ id):Buf Γ' w aa o b:=by
 obtain⟨x,te,l,g,rfl,h2,h3⟩:=h.is;exact⟨g,by rw[hg];exact h2,h3⟩
theorem ZjD.mono {I' F' : Nat→Prop} {w' : World} {a:Option Addr} {n c sz ns:Nat} {xs:List D} {hl:Option Nat} (h:ZjD w I F a n c sz ns xs hl)
  (hb:∀ b,(Zz (some (.row a n c sz))=some b∨∃ g B,Zz (some (.row a n c sz))=some g∧ZY (Up w g hl) ns B g sz xs 0∧b∈B)→w'.heap[b]?=w.heap[b]?∧(I' b→I b)∧(F b→F' b)):ZjD w' I' F' a n c sz ns xs hl:=by
 refine⟨h.1,?_⟩;rcases h.2 with h3 | ⟨g,cur,e,B,rfl,h4,hw,h6,h7,h8,h9,ab,af,ad⟩
 ·exact .inl h3
 ·have hg:Zz (some (.row (some ⟨g,0,none⟩) n c sz))=some g:=by simp[Zz,KE h4]
  have aa:∀ b∈g :: B,w'.heap[b]?=w.heap[b]?∧(I' b→I b)∧(F b→F' b):=fun b hm=>by
   rcases Kd.1 hm with rfl | hm
   ·exact hb _ (.inl hg)
   ·exact hb b (.inr ⟨g,B,hg,ab,hm⟩)
  have ae:=aa g (by simp);exact .inr ⟨g,cur,e,B,rfl,h4,ae.1.trans hw,h6,h7,h8,h9,ab.mono (ZeM hl ae.1) fun b hm=>ZeM hl (aa b (by simp[hm])).1,af,fun b hm=>⟨fun hi=>(ad b hm).1 ((aa b hm).2.1 hi),(aa b hm).2.2 (ad b hm).2⟩⟩
theorem Yj.blk {a:Option Addr} {n c sz ns:Nat} {xs:List D} {lk:Option (Option Nat×Nat×Nat)} (h:ZjD w I F a n c sz ns xs (Y4 sz lk)) (hl:lk≠none) {g:Nat} (hg:a=some ⟨g,0,none⟩):Zz (some (.row a n c sz))=some g:=by
 subst hg;rcases h.2 with h7 | ⟨_,_,_,_,_,h7,_⟩
 ·cases lk with
  | none=>exact absurd rfl hl
  | some q=>obtain⟨_,_,h8⟩:=h7;cases h8
 ·simp[Zz,KE h7]
theorem YF.mono {Γ' : Gh} {I' : Nat→Prop} {w' : World} {id:Nat} {o:Zk} (ho:YF Γ w I F A id o) (hk:Qa Γ Γ') (aa:ZO I I' w w')
  (ab:∀ b,Blk Γ w id o b→w'.heap[b]?=w.heap[b]?∧(I' b→I b)):YF Γ' w' I' F A id o:=by
 cases o with
 | gone=>
  obtain⟨r,hr⟩:=ho;exact⟨r,hk _ _ hr⟩
 | tree sz ns xs lk=>
  obtain⟨ad,n,c,h1,h2,h3⟩:=ho;have hb:∀ b,(Zz (some (.row ad n c sz))=some b∨∃ g B,Zz (some (.row ad n c sz))=some g∧ZY (Up w g (Y4 sz lk)) ns B g sz xs 0∧b∈B)→w'.heap[b]?=w.heap[b]?∧(I' b→I b)∧(F b→F b):=fun b hb=>by
   rw[← h1] at hb;have:=ab b (hb.elim .inl fun h=>.inr (.inl h));exact⟨this.1,this.2,fun h=>h⟩
  refine⟨ad,n,c,hk _ _ h1,h2.mono hb,?_⟩;cases lk with
  | none=>trivial
  | some q=>exact h3.mono hk fun g hg=>(hb g (.inl (Yj.blk h2 (by simp) hg))).1
 | box cs=>
  obtain⟨b,cur,e,h1,h2,h3,h4,h5,h8⟩:=ho;obtain⟨h6,h7⟩:=ab b (.inl (by rw[h1];rfl));exact⟨b,cur,e,hk _ _ h1,by rw[h6,h2],fun hi=>h3 (h7 hi),h4,h5.mono fun _ _ h=>h.mono hk aa,h8.mono fun x te l u v g hc hv hg=>
   have:=ab g (.inr (.inr (ZxJ h1 h2 hc hv hg)));⟨this.1,this.2,fun h=>h⟩⟩
 | row sz xs ex fz=>
  obtain⟨ad,n,c,h1,h2,h3⟩:=ho;refine⟨ad,n,c,hk _ _ h1,h2,?_⟩;rcases h3 with h3 | ⟨g,q0,cur,e,rfl,hc,hw,h4,h5,h6,h7,h8,af,h9⟩
  ·exact .inl h3
  ·obtain⟨ae,ag⟩:=ab g (.inl (by rw[h1];simp[Zz,KE hc]));refine .inr ⟨g,q0,cur,e,rfl,hc,by rw[ae,hw],h4,h5,h6,h7,?_,af,?_⟩
   ·cases fz
    ·simp at h8 ⊢;exact fun hi=>h8 (ag hi)
    ·simp at h8 ⊢;exact aa.sub g h8
   ·cases ex
    ·exact h9.mono' aa ae
    ·simp only[Kl] at h9 ⊢;exact h9.mono' ⟨fun b hb=>⟨aa.sub b hb.1,hb.2⟩,fun b hb=>aa.blk b hb.1⟩ ae
theorem Sim.blk_lt (h:Sim nt F A I Γ U sl hp a w) {id:Nat} {o:Zk} (hl:lkp hp id=some o) {b:Nat} (hb:Blk Γ w id o b):b<w.heap.size:=by
 have ho:=h.objs id o hl;rcases hb with hb | hb | hb
 rotate_left
 ·exact(ZvZ ho hb).1
 ·exact(ZBo ho hb).1
 cases o with
 | tree sz ns xs lk=>
  obtain⟨ad,n,c,h1,⟨_,h3⟩,_⟩:=ho;rw[h1] at hb;rcases h3 with h3 | ⟨g,cur,e,B,rfl,hc,hw,_⟩
  ·cases ad<;>simp[Zgq,Zz,h3.2.1] at hb
  ·simp only[Zgq,Zz,KE hc,Km] at hb;cases hb;exact(KO.1 hw).1
 | gone=>cases hb
 | box cs=>
  obtain⟨b',cur,e,h1,h2,_⟩:=ho;rw[h1] at hb;cases hb;exact(KO.1 h2).1
 | row sz xs ex fz=>
  obtain⟨ad,n,c,h1,h2,h3⟩:=ho;rw[h1] at hb;rcases h3 with h3 | ⟨g,q0,cur,e,rfl,hc,hw,_⟩
  ·cases ad<;>simp[Zgq,Zz,h3.2] at hb
  ·simp only[Zgq,Zz,KE hc,Km] at hb;cases hb;exact(KO.1 hw).1
theorem ZkU {id:Nat} {o:Zk} (ho:YF Γ w I F A id o) {b:Nat} (hb:Blk Γ w id o b):F b:=by
 rcases hb with hb | hb | hb
 rotate_left
 ·exact(ZvZ ho hb).2.2
 ·exact(ZBo ho hb).2.2.1
 cases o with
 | box cs=>
  obtain⟨b',cur,e,h1,h2,h3,h4,_⟩:=ho;rw[h1] at hb;cases hb;exact h4
 | row sz xs ex fz=>
  obtain⟨ad,n,c,h1,h2,h3⟩:=ho;rw[h1] at hb;obtain⟨aa,rfl,rfl,hc⟩:=ZbW hb;rcases h3 with h3 | ⟨g,q0,cur,e,hg,h4,h5,h6,h7,h8,h9,ab,ae,af⟩
  ·exact absurd h3.2 hc
  ·cases hg;exact ae
 | gone=>cases hb
 | tree sz ns xs lk=>
  obtain⟨ad,n,c,h1,⟨h2,h3⟩,_⟩:=ho;rw[h1] at hb;obtain⟨aa,rfl,rfl,hc⟩:=ZbW hb;rcases h3 with h3 | ⟨g,cur,e,B,hg,h4,h5,h6,h7,h8,h9,ab,af,ag⟩
  ·exact absurd h3.2.1 hc
  ·cases hg;exact(ag g (by simp)).2
theorem ZrT {S:Nat→Prop} {x:D} {vs:List Value} (h:Zy (fun d v=>d.one=true∧ZP w S d [v]) x.cells vs):ZP w S x vs:=by
 have one:∀ {y:D},Zy (fun d v=>d.one=true∧ZP w S d [v]) [y] vs→ZP w S y vs:=by
  intro y h;cases vs with
  | nil=>exact h.elim
  | cons v vs=>cases vs with
   | nil=>exact h.1.2
   | cons _ _=>exact h.2.elim
 cases x with
 | agg cs=>exact Xm.2 h
 | int k n=>exact one h
 | bool b=>exact one h
 | str b=>exact one h
 | sl b=>exact one h
theorem Sim.id_in (h:Sim nt F A I Γ U sl hp a w) {id:Nat} {o:Zk} (hl:lkp hp id=some o):U id:=by
 have ho:=h.objs id o hl;by_cases aa:¬U id
 ·have hn:=h.names id aa;cases o with
  | box cs=>obtain⟨b',cur,e,h1,_⟩:=ho;rw[hn] at h1;cases h1
  | row sz xs ex fz=>obtain⟨ad,n,c,h1,_⟩:=ho;rw[hn] at h1;cases h1
  | gone=>obtain⟨r,h1⟩:=ho;rw[hn] at h1;cases h1
  | tree sz ns xs lk=>obtain⟨ad,n,c,h1,_⟩:=ho;rw[hn] at h1;cases h1
 ·exact Classical.not_not.1 aa
def upd (Γ:Gh) (id:Nat) (r:Ref):Gh:=fun k=>if k=id then some r else Γ k
theorem ZJ (Γ:Gh) (id:Nat) (r:Ref):upd Γ id r id=some r:=by simp[upd]
theorem QI (Γ:Gh) {id k:Nat} (r:Ref) (h:k≠id):upd Γ id r k=Γ k:=by simp[upd,h]
theorem Vt {Γ:Gh} {id:Nat} (r:Ref) (h:Γ id=none):Qa Γ (upd Γ id r):=fun k x hk=>by
 unfold upd;split
 ·rename_i e;subst e;rw[h] at hk;cases hk
 ·exact hk
theorem Sim.add (h:Sim nt F A I Γ U sl hp a w) {U' : Nat→Prop} {adds:Hp} {Γ' : Gh} {w' : World} {v:AV} {u:Value} {dst:Option Nat}
  (hk:Qa Γ Γ') (ab:∀ k,k<w.heap.size→w'.heap[k]?=w.heap[k]?) (ap:w.heap.size≤w'.heap.size) (aq:w'.os=w.os) (af:w'.tape=w.tape) (aj:w'.output=w.output)
  (ak:∀ k o,(k,o)∈adds→YF Γ' w' I F A k o)
  (al:∀ i j o o' b,(i,o)∈adds→(j,o')∈adds→Blk Γ' w' i o b→Blk Γ' w' j o' b→i=j)
  (ag:∀ k o b,(k,o)∈adds→Blk Γ' w' k o b→w.heap.size≤b)
  (ad:∀ k,U k→Γ' k=Γ k)
  (ae:∀ id,¬U' id→Γ' id=none) (am:Rep Γ' w' I v u) (an:QP nt dst=true) :
  Vi nt F A I Γ w U' (Zs sl dst v) (Zi hp adds) (a.put dst u) w':=by
 have aa:ZO I I w w':=⟨fun _ h=>h,fun b hI=>ab b (h.bound b hI)⟩
 have ao:∀ id o,lkp hp id=some o→Γ' id=Γ id:=fun id o hl=>ad id (h.id_in hl);have back:∀ id o b,lkp hp id=some o→Blk Γ' w' id o b→Blk Γ w id o b:=fun id o b hl hb=>hb.back (h.objs id o hl) (ao id o hl) fun g hg=>ab g (h.blk_lt hl hg);refine⟨I,Γ',hk,aa,fun _ h=>.inl h,⟨aq,af,aj,ap,fun k hk _=>ab k hk⟩,?_⟩;refine h.next hk aa ?_ ?_ (fun b hI=>by have:=h.bound b hI;omega) ap ae am an
 ·intro id o hl;rcases JL adds hp id o hl with hm | hm
  ·exact ak id o hm
  ·exact(h.objs id o hm).mono hk aa fun b hb=>⟨ab b (h.blk_lt hm hb),fun h=>h⟩
 ·intro i j o o' b hi hj ah ai;rcases JL adds hp i o hi with hi | hi<;>rcases JL adds hp j o' hj with hj | hj
  ·exact al i j o o' b hi hj ah ai
  ·have h1:=ag i o b hi ah;have h2:=h.blk_lt hj (back j o' b hj ai);omega
  ·have h1:=ag j o' b hj ai;have h2:=h.blk_lt hi (back i o b hi ah);omega
  ·exact h.inj i j o o' b hi hj (back i o b hi ah) (back j o' b hj ai)
theorem ZBp (w:World) (I F A:Nat→Prop) (hi:Nat):∀ (slc:List (Option Nat)) (cs:List AV) (vs:List Value) (b:Nat) (Γ:Gh),QX b hi (mat slc cs b).2=true→(∀ id,b≤id→id<hi→Γ id=none)→Zy (Xw Γ w I) cs vs →
  ∃ Γ',Qa Γ Γ'∧(∀ k,k<b∨hi≤k→Γ' k=Γ k)∧(∀ k o,(k,o)∈(mat slc cs b).2→b≤k∧YF Γ' w I F A k o∧Zz (Γ' k)=none)∧Zy (Xw Γ' w I) (mat slc cs b).1 vs:=by
 intro slc cs
 induction cs generalizing slc with
 | nil=>
  intro vs b Γ ae hn h;have hm:mat slc [] b=([],[]):=by cases slc<;>simp[mat]<;>(rename_i x _;cases x<;>simp[mat])
  rw[hm];exact⟨Γ,Qa.refl Γ,fun _ _=>rfl,fun k o aa=>by simp at aa,h⟩
 | cons c cs ih=>
  intro vs b Γ ae hn h;cases vs with
  | nil=>exact h.elim
  | cons v vs=>
   have skip:∀ ab,mat slc (c :: cs) b=(c :: (mat ab cs b).1,(mat ab cs b).2)→∃ Γ',Qa Γ Γ'∧(∀ k,k<b∨hi≤k→Γ' k=Γ k) ∧
     (∀ k o,(k,o)∈(mat slc (c :: cs) b).2→b≤k∧YF Γ' w I F A k o∧Zz (Γ' k)=none)∧Zy (Xw Γ' w I) (mat slc (c :: cs) b).1 (v :: vs):=by
    intro ab he;rw[he] at ae;obtain⟨Γ',h1,h2,h3,h5⟩:=ih ab vs b Γ ae hn h.2;rw[he];exact⟨Γ',h1,h2,h3,h.1.mono h1 (ZO.refl I w),h5⟩
   cases slc with
   | nil=>
    have he:mat [] (c :: cs) b=(c :: cs,[]):=by cases c<;>simp[mat]
    rw[he];exact⟨Γ,Qa.refl Γ,fun _ _=>rfl,fun k o aa=>by simp at aa,h⟩
   | cons s slc=>
    by_cases hc:∃ s',s=some s'∧c=.nil
    ·obtain⟨s',rfl,rfl⟩:=hc;obtain⟨ad,hv⟩:∃ ad,v=.slice ad 0 0:=h.1;have he:mat (some s' :: slc) (.nil :: cs) b=(.own b :: (mat slc cs (b+1)).1,(b,.row s' [] true false) :: (mat slc cs (b+1)).2):=by simp[mat]
     rw[he] at ae;simp only[QX,Kf,Ko] at ae;have af : ∀ id,b+1≤id→id<hi→upd Γ b (.row ad 0 0 s') id=none:=fun id ah ag=>by rw[QI _ _ o_];exact hn id o_ ag
     have hk:=Vt (.row ad 0 0 s') (hn b (Kp b) ae.1.2);obtain⟨Γ',h1,h2,h3,h5⟩:=ih slc vs (b+1) (upd Γ b (.row ad 0 0 s')) ae.2 af (h.2.mono fun _ _ h=>h.mono hk (ZO.refl I w));have hb:Γ' b=some (.row ad 0 0 s'):=h1 _ _ (ZJ _ _ _);rw[he];refine⟨Γ',fun id r hr=>h1 _ _ (hk _ _ hr),fun k ai=>by rw[h2 k o_,QI _ _ o_],?_,⟨ad,0,0,s',hb,hv⟩,h5⟩;intro k o aa;rcases Kd.1 aa with aa | aa
     ·cases aa;exact⟨Kp _,⟨ad,0,0,hb,rfl,.inl ⟨rfl,rfl⟩⟩,by rw[hb];cases ad<;>simp[Zz]⟩
     ·obtain⟨h6,h7⟩:=h3 k o aa;exact⟨o_,h7⟩
    ·refine skip slc ?_;cases s with
     | none=>cases c<;>simp[mat]
     | some s'=>cases c<;>first | (exact absurd ⟨s',rfl,rfl⟩ hc) | simp[mat]
end
end Go.Abs
