/- The abstract semantics and the model: operations that turn nothing,all together. Own text. -/
import Derived.Test.YtkdjbefmiiibpaaGreatDoorAbsExec
set_option linter.unusedVariables false
set_option linter.unusedSimpArgs false
namespace Go.Abs
open Go
section
variable {P:Program} {Γ:Gh} {w:World} {I:Nat→Prop} {F A:Nat→Prop} {hp:Hp}
def ZwI (Γ:Gh) (w:World) (I:Nat→Prop):Option AV→Option Value→Prop
 | none,none=>True
 | some x,some v=>Rep Γ w I x v
 | _,_=>False
theorem Zdx.evM {sl:Sl} {a:Act} (h:Zdx Γ w I sl a) {x:Option Operand} {y:Option Opd} (hc:cOO x=some y):ZwI Γ w I (evM sl y) (x.map a.eval):=by
 cases x with
 | none=>simp only[cOO] at hc;cases hc;exact trivial
 | some x=>
  simp only[cOO] at hc
  obtain⟨y',h1,hc⟩:=Za hc
  cases hc
  exact h.ev h1
theorem ZAT {m n c:Nat} (hmc:m≤c) {x:AV} {v:Value} (h:Rep Γ w I x v) (hb:bd m x=some n) (code:BoundsCode) :
  (Instr.sliceBound v c code).run P w=.ok n w∧n≤m:=by
 unfold bd at hb
 obtain⟨i,hi,hb⟩:=Za hb
 obtain⟨k,rfl⟩:=Zae hi h
 split at hb
 ·rename_i hc
  cases hb
  refine⟨run_sliceBound w k i c code hc.1 (by omega),by omega⟩
 ·cases hb
theorem ZgH {len cap:Nat} (hlc:len≤cap) {lo hi:Option AV} {vlo vhi:Option Value} (hl:ZwI Γ w I lo vlo) (hh:ZwI Γ w I hi vhi) {b:Nat×Nat} (hb:Zs9 len lo hi=some b) (isSlice:Bool) :
  (Instr.sliceBounds isSlice len cap vlo vhi none).run P w=.ok (b.1,b.2,cap) w∧b.1≤b.2∧b.2≤len:=by
 unfold Zs9 at hb
 obtain⟨h,h1,hb⟩:=Za hb
 obtain⟨l,h2,hb⟩:=Za hb
 cases hb
 have hH:(match vhi with | some v=>Instr.sliceBound v cap (if isSlice then .sliceAcap else .sliceAlen) | none=>pure len:Sem Nat).run P w=.ok h w∧h≤len:=by
  cases hi with
  | none=>cases vhi with
   | none=>simp only[hiOf] at h1;cases h1;exact⟨rfl,Nat.le_refl _⟩
   | some v=>exact hh.elim
  | some x=>cases vhi with
   | none=>exact hh.elim
   | some v=>exact ZAT hlc hh h1 _
 have hL:(match vlo with | some v=>Instr.sliceBound v h .sliceB | none=>pure 0:Sem Nat).run P w=.ok l w∧l≤h:=by
  cases lo with
  | none=>cases vlo with
   | none=>simp only[loOf] at h2;cases h2;exact⟨rfl,Nat.zero_le _⟩
   | some v=>exact hl.elim
  | some x=>cases vlo with
   | none=>exact hl.elim
   | some v=>exact ZAT (Nat.le_refl _) hl h2 _
 refine⟨?_,hL.2,hH.2⟩
 unfold Instr.sliceBounds
 cases vhi<;>cases vlo<;>simp only[] at hH hL<;>simp[hH.1,hL.1]<;>(simp at hH hL;simp[hH,hL])
theorem Zte (a:Addr) (x y:Nat):(a.add x).add y=a.add (x+y):=by
 unfold Addr.add
 by_cases hx:x=0
 ·simp[hx]
 ·by_cases hy:y=0
  ·simp[hx,hy]
  ·have:x+y≠0:=by omega
   simp[hx,hy,this,Nat.add_assoc]
theorem ZfD (a:Addr):a.add 0=a:=by simp[Addr.add]
theorem Zzl {t e:TypeId} (he:VD P t=some e) (hi:∃ i,P.info? e=some i) (ho:ZbH Γ w I F A hp) {lo hi' : Option AV} {vlo vhi:Option Value} (hl:ZwI Γ w I lo vlo) (hh:ZwI Γ w I hi' vhi)
  {x r:AV} {v:Value} (h:Rep Γ w I x v) (hp' : Ux hp (P.cellsOf e) lo hi' x=some r) :
  ∃ u,(Instr.sliceAt t v vlo vhi none).run P w=.ok u w∧Rep Γ w I r u:=by
 obtain⟨i,hi⟩:=hi
 have hu:=Xt he
 have key:∀ (a:Option Addr) (n c:Nat) (b:Nat×Nat),(Instr.sliceBounds true n c vlo vhi none).run P w=.ok (b.1,b.2,c) w →
   (Instr.sliceAt t (.slice a n c) vlo vhi none).run P w=.ok (.slice (if c=b.1 then a else a.map (·.add (b.1*P.cellsOf e))) (b.2-b.1) (c-b.1)) w:=by
  intro a n c b hb
  simp[Instr.sliceAt,Instr.slice,run_underlying hu,hb,Xu hi]
 unfold Ux at hp'
 split at hp'
 ·rename_i xs
  split at hp'
  ·rename_i huni
   obtain⟨b,hb,hp'⟩:=Za hp'
   cases hp'
   have:=Q5.1 h
   simp only[Yq,Z2] at this
   obtain⟨a,c,hv,hc,h1⟩:=this
   simp at hv
   subst hv
   obtain⟨hr,h2,h3⟩:=ZgH (P:=P) hc hl hh hb true
   refine⟨_,key _ _ _ _ hr,Q5.2 ?_⟩
   have hlen:((xs.take b.2).drop b.1).length=b.2-b.1:=by simp;omega
   refine⟨_,c-b.1,by rw[hlen],by omega,?_⟩
   by_cases hz:b.2=b.1
   ·left;exact List.eq_nil_of_length_eq_zero (by omega)
   ·right
    rcases h1 with h1 | ⟨bb,o,sz,rfl,hI,h0,hrE⟩
    ·subst h1;simp at h3;omega
    ·have hne:¬c=b.1:=by omega
     obtain⟨y,hy⟩:∃ y,xs[0]?=some y:=⟨_,List.getElem?_eq_getElem (by omega)⟩
     have hsz:sz=P.cellsOf e:=by
      obtain⟨vs,h4,h5,h6⟩:=YZ.1 hrE 0 y hy
      rw[← h4,h6.length]
      exact huni y (List.mem_of_getElem? hy)
     subst hsz
     refine⟨bb,o+b.1*P.cellsOf e,P.cellsOf e,by simp[hne,JT],hI,h0,?_⟩
     rw[YZ] at hrE ⊢
     intro j z hz'
     rw[List.getElem?_drop,List.getElem?_take] at hz'
     split at hz'
     ·obtain⟨vs,h4,h5,h6⟩:=hrE _ z hz'
      exact⟨vs,h4,by rw[Nat.add_mul,← Nat.add_assoc] at h5;exact h5,h6⟩
     ·cases hz'
  ·cases hp'
 ·obtain⟨b,hb,hp'⟩:=Za hp'
  cases hp'
  obtain⟨a,rfl⟩:=h
  obtain⟨hr,h2,h3⟩:=ZgH (P:=P) (Nat.le_refl 0) hl hh hb true
  have hb1:b.1=0:=by omega
  have hb2:b.2=0:=by omega
  exact⟨_,key _ _ _ _ hr,a,by simp[hb1,hb2]⟩
 ·rename_i id
  obtain⟨a,n,c,sz,hb,rfl⟩:=h
  unfold Zd2 at hp'
  split at hp'
  ·rename_i sz' xs ex fz hlk
   split at hp'
   ·rename_i hsz
    obtain⟨a',n',c',hb',hn,hro⟩:=ho id _ hlk
    rw[hb] at hb';cases hb'
    subst hsz
    have hnc:n≤c:=by
     rcases hro with hro | ⟨g,cur,e',_,_,_,hro,_⟩<;>omega
    unfold ZuO at hp'
    split at hp'
    ·cases hp'
     cases vlo with
     | some v=>exact hl.elim
     | none=>cases vhi with
      | some v=>exact hh.elim
      | none=>
       refine⟨_,key _ _ _ (0,n) (by simp[Instr.sliceBounds]),a,n,c,_,hb,?_⟩
       simp[ZfD]
    ·obtain⟨b,hb2,hp'⟩:=Za hp'
     cases hp'
     rw[← hn] at hb2
     obtain⟨hr,h2,h3⟩:=ZgH (P:=P) hnc hl hh hb2 true
     refine⟨_,key _ _ _ _ hr,a,n,c,_,_,hb,by omega,hnc,rfl,?_,?_⟩
     ·intro h0;simp[h0,ZfD]
     ·by_cases hcb:c=b.1
      ·right;exact hcb
      ·left;simp[hcb]
   ·cases hp'
  ·cases hp'
 ·rename_i id off n
  obtain⟨a0,m,c,sz,a,hb,h1,h2,rfl,h3,h4⟩:=h
  unfold ZbJ at hp'
  split at hp'
  ·rename_i sz' xs ex fz hlk
   split at hp'
   ·rename_i hsz
    obtain⟨b,hb2,hp'⟩:=Za hp'
    cases hp'
    obtain⟨a',n',c',hb',hn,hro⟩:=ho id _ hlk
    rw[hb] at hb';cases hb'
    subst hsz
    have hrr:(Instr.sliceBounds true n (c-off) vlo vhi none).run P w=.ok (b.1,b.2,c-off) w∧b.1≤b.2∧off+b.2≤m:=by
     cases hi' with
     | none=>
      obtain⟨h7,h8,h9⟩:=ZgH (P:=P) (show n≤c-off by omega) hl hh hb2 true
      exact⟨h7,h8,by omega⟩
     | some hv=>
      cases vhi with
      | none=>exact hh.elim
      | some vh=>
       obtain⟨h7,h8,h9⟩:=ZgH (P:=P) (show xs.length-off≤c-off by omega) hl hh hb2 true
       exact⟨h7,h8,by omega⟩
    obtain⟨hr,h5,h6⟩:=hrr
    refine⟨_,key _ _ _ _ hr,a0,m,c,_,_,hb,by omega,h2,by rw[Nat.sub_sub],?_,?_⟩
    ·intro h0
     have hoff:off=0:=by omega
     have hb0:b.1=0:=by omega
     simp[hb0,ZfD,h3 hoff]
    ·by_cases hcb:c-off=b.1
     ·right;omega
     ·left
      simp only[hcb,if_false]
      rcases h4 with h4 | h4
      ·subst h4
       cases a0<;>simp[Zte,Nat.add_mul]
      ·omega
   ·cases hp'
  ·cases hp'
 ·cases hp'
theorem ZkH (ho:ZbH Γ w I F A hp) {x:AV} {v:Value} {n:Nat} (h:Rep Γ w I x v) (hn:Zfv hp x=some n):∃ a c,v=.slice a n c∧n≤c:=by
 unfold Zfv at hn
 split at hn
 ·cases hn
  have:=Q5.1 h
  simp only[Yq,Z2] at this
  obtain⟨a,c,hv,hc,h1⟩:=this
  simp at hv
  exact⟨a,c,hv,hc⟩
 ·cases hn;obtain⟨a,rfl⟩:=h;exact⟨a,0,rfl,Nat.le_refl _⟩
 ·rename_i id
  obtain⟨xs,hx,hn⟩:=Za hn
  cases hn
  obtain⟨a,n,c,sz,hb,rfl⟩:=h
  unfold ZaU at hx
  split at hx
  ·rename_i hlk
   cases hx
   obtain⟨a',n',c',hb',hn,hro⟩:=ho id _ hlk
   rw[hb] at hb';cases hb'
   refine⟨a,c,by rw[hn],?_⟩
   rcases hro with hro | ⟨g,cur,e',_,_,_,hro,_⟩<;>omega
  ·rename_i hlk
   cases hx
   obtain⟨a',n',c',hb',⟨hn,hro⟩,_⟩:=ho id _ hlk
   rw[hb] at hb';cases hb'
   refine⟨a,c,by rw[hn],?_⟩
   rcases hro with hro | ⟨g,cur,e',_,_,_,hro,_⟩<;>omega
  ·cases hx
 ·cases hn
  obtain⟨a0,m,c,sz,a,hb,h1,h2,rfl,_⟩:=h
  exact⟨a,_,rfl,by omega⟩
 ·cases hn
theorem ZwJ {t e:TypeId} (he:VD P t=some e) (hi:∃ i,P.info? e=some i) (ho:ZbH Γ w I F A hp) {x y z r:AV} {v vh vm:Value} (h:Rep Γ w I x v) (hh:Rep Γ w I y vh) (hm:Rep Γ w I z vm)
  (hp' : slice0 hp x (idx y) (idx z)=some r):∃ u,(Instr.sliceAt t v none (some vh) (some vm)).run P w=.ok u w∧Rep Γ w I r u:=by
 obtain⟨i,hi⟩:=hi
 unfold slice0 at hp'
 split at hp'
 ·rename_i h1 h2
  obtain⟨n,hn,hp'⟩:=Za hp'
  cases hp'
  obtain⟨a,c,rfl,hc⟩:=ZkH ho h hn
  obtain⟨k1,rfl⟩:=Zae h1 hh
  obtain⟨k2,rfl⟩:=Zae h2 hm
  refine⟨.slice a 0 0,?_,a,rfl⟩
  simp[Instr.sliceAt,Instr.slice,run_underlying (Xt he),Instr.sliceBounds,Instr.sliceBound,asIntOf,Xu hi]
 ·cases hp'
theorem ZwK {t e:TypeId} (he:VD P t=some e) (hi:∃ i,P.info? e=some i) (ho:ZbH Γ w I F A hp) {x y z u r:AV} {v vl vh vm:Value} (h:Rep Γ w I x v) (hl:Rep Γ w I y vl) (hh:Rep Γ w I z vh) (hm:Rep Γ w I u vm)
  (hp' : slice3 hp x (idx y) (idx z) (idx u)=some r):∃ q,(Instr.sliceAt t v (some vl) (some vh) (some vm)).run P w=.ok q w∧Rep Γ w I r q:=by
 obtain⟨i,hi⟩:=hi
 unfold slice3 at hp'
 obtain⟨l,h1,hp'⟩:=Za hp'
 obtain⟨hI,h2,hp'⟩:=Za hp'
 obtain⟨m,h3,hp'⟩:=Za hp'
 obtain⟨n,h4,hp'⟩:=Za hp'
 split at hp'
 ·rename_i hc
  cases hp'
  obtain⟨c1,c2,c3,c4⟩:=hc
  obtain⟨a,c,rfl,hc⟩:=ZkH ho h h4
  obtain⟨k1,rfl⟩:=Zae h1 hl
  obtain⟨k2,rfl⟩:=Zae h2 hh
  obtain⟨k3,rfl⟩:=Zae h3 hm
  have e1:=run_sliceBound (P:=P) w k3 m c .slice3Acap (by omega) (by omega)
  have e2:=run_sliceBound (P:=P) w k2 hI m.toNat .slice3B (by omega) (by omega)
  have e3:=run_sliceBound (P:=P) w k1 l hI.toNat .slice3C (by omega) (by omega)
  exact⟨_,by simp[Instr.sliceAt,Instr.slice,run_underlying (Xt he),Instr.sliceBounds,e1,e2,e3,Xu hi];rfl,trivial⟩
 ·cases hp'
theorem ZC3 {t e ty:TypeId} (he:VD P t=some e) (ho:ZbH Γ w I F A hp) {x:AV} {v:Value} {n:Nat} (h:Rep Γ w I x v) (hn:Zfv hp x=some n) :
  (Builtin.len_ #[t] ty #[v]).run P w=.ok (.int .i64 n) w:=by
 obtain⟨a,c,rfl,hc⟩:=ZkH ho h hn
 simp[Builtin.len_,run_underlying (Xt he),goInt]
theorem ZAU {t ty:TypeId} (he:ZbK P t=true) {x:AV} {v:Value} {n:Nat} (h:Rep Γ w I x v) (hn:ZyI x=some n) :
  (Builtin.len_ #[t] ty #[v]).run P w=.ok (.int .i64 n) w:=by
 unfold ZyI at hn
 split at hn
 ·cases hn
  obtain⟨s,rfl,rfl⟩:=Zhj h
  simp[Builtin.len_,run_underlying (ZaH he),goInt]
 ·cases hn
theorem ZwL {t:TypeId} (he:ZbK P t=true) {lo hi' : Option AV} {vlo vhi:Option Value} (hl:ZwI Γ w I lo vlo) (hh:ZwI Γ w I hi' vhi)
  {x r:AV} {v:Value} (h:Rep Γ w I x v) (hp' : sliceS lo hi' x=some r) :
  ∃ u,(Instr.sliceAt t v vlo vhi none).run P w=.ok u w∧Rep Γ w I r u:=by
 unfold sliceS at hp'
 split at hp'
 ·obtain⟨b,hb,hp'⟩:=Za hp'
  cases hp'
  obtain⟨s,rfl,rfl⟩:=Zhj h
  have hsz:s.data.toList.length=s.size:=rfl
  rw[hsz] at hb
  obtain⟨hr,h2,h3⟩:=ZgH (P:=P) (Nat.le_refl _) hl hh hb false
  refine⟨.string (s.extract b.1 b.2),?_,ZuH ?_⟩
  ·simp[Instr.sliceAt,Instr.slice,run_underlying (ZaH he),hr]
  ·rw[ByteArray.data_extract,Array.toList_extract,List.extract_eq_take_drop,List.drop_take]
 ·cases hp'
theorem Zpu (k:IntKind) (n:Int):Yq w I (.int k n) (.int k n):=by simp[Yq,Z2]
theorem ZdO (b:Bool):Yq w I (.bool b) (.bool b):=by simp[Yq,Z2]
theorem ZAV {op:BinOp} {k:IntKind} {a b:Int} {d:D} (h:JP op k a b=some d) (t:TypeId):∃ u,(binOp op t (.int k a) (.int k b)).run P w=.ok u w∧Yq w I d u:=by
 cases op<;>simp only[JP] at h<;>first
  | (cases h;exact⟨_,by simp[binOp,Op.intArith,Op.intBits,Op.intCmp],Zpu _ _⟩)
  | (cases h;exact⟨_,by simp[binOp,Op.intArith,Op.intBits,Op.intCmp],ZdO _⟩)
  | (split at h
     ·cases h
     ·rename_i hb;cases h;exact⟨_,by simp[binOp,Op.intDiv,hb],Zpu _ _⟩)
  | (cases h;done)
theorem Zpv {op:BinOp} {k k' : IntKind} {a b:Int} {d:D} (h:Zmm op k a b=some d) (t:TypeId):∃ u,(binOp op t (.int k a) (.int k' b)).run P w=.ok u w∧Yq w I d u:=by
 unfold Zmm at h
 split at h
 ·cases h
 ·rename_i hb
  cases op<;>simp only[] at h<;>first
   | (cases h;exact⟨_,by simp[binOp,Op.shift,hb],Zpu _ _⟩)
   | (cases h;done)
theorem ZAW {op:BinOp} {x y:ByteArray} {d:D} (h:Zt9 op x.data.toList y.data.toList=some d) (t:TypeId):∃ u,(binOp op t (.string x) (.string y)).run P w=.ok u w∧Yq w I d u:=by
 have e1:(x.toList==y.toList)=(x.data.toList==y.data.toList):=by rw[ByteArray.toList_eq,ByteArray.toList_eq]
 cases op<;>simp only[Zt9] at h<;>first
  | (split at h
     ·rename_i hl
      cases h
      refine ⟨.string (x ++ y), ?_, ?_⟩
      ·have := run_string_add_sum (P := P) w x y (by
        have h1 : x.data.toList.length = x.size := rfl
        have h2 : y.data.toList.length = y.size := rfl
        simp only [Zv3] at hl; omega)
       simpa [binOp] using this
      ·simp [Yq, Z2]
     ·cases h)
  | (cases h;exact⟨_,by simp[binOp,Op.stringOp,e1],ZdO _⟩)
  | (cases h;done)
end
end Go.Abs
set_option linter.unusedVariables false
set_option linter.unusedSimpArgs false
namespace Go.Abs
open Go
def Zpw (P:Program) (o:Oper) (a:Act) (w:World) (u:Value) (w' : World):Prop:=
 (execOp a.eval o).run P w=.ok (.value u) w'∨((execOp a.eval o).run P w=.ok .skip w'∧u=undef)
theorem Zpw.wp {P:Program} {o:Oper} {a:Act} {w w' : World} {u:Value} (h:Zpw P o a w u w') {K:Act→World→Prop} {Q:Exit→Act→World→Prop} (hk:K (a.put o.dst u) w'):o.wp P a w K Q:=by
 unfold Oper.wp
 rcases h with h | ⟨h,rfl⟩
 ·rw[h];exact hk
 ·rw[h];exact hk
section
variable {P:Program} {Γ:Gh} {w:World} {I:Nat→Prop} {F A:Nat→Prop} {hp:Hp} {sl:Sl} {a:Act}
def ceV (r:AV):Zc := { eff := { val:=r },gone:=[] }
def Vk (P:Program) (Γ:Gh) (I:Nat→Prop) (o:Oper) (a:Act) (w:World) (ce:Zc):Prop:=
 ∃ u r,Zpw P o a w u w∧ce=ceV r∧Rep Γ w I r u
theorem QP {v:AV} {ce:Zc} (h:QT v=some ce):ce=ceV v:=by cases h;rfl
theorem opt1_some {v:Option AV} {ce:Zc} (h:WL v=some ce):∃ r,v=some r∧ce=ceV r:=by
 obtain⟨r,h1,h2⟩:=Za h
 exact⟨r,h1,QP h2⟩
theorem ZmJ {o:Oper} {x:Operand} {y:Opd} (ho:o.op=.move x∨o.op=.assign x) (hs:Zdx Γ w I sl a) (hc:Qd x=some y) {ce:Zc} (hv:QT (evO sl y)=some ce):Vk P Γ I o a w ce:=by
 refine⟨a.eval x,_,.inl ?_,QP hv,hs.ev hc⟩
 rcases ho with ho | ho<;>simp[execOp,ho]
theorem Zzm {o:Oper} {x y z:Operand} {x' y' z' : Opd} (ho:o.op=.pick x y z) (hs:Zdx Γ w I sl a) (hx:Qd x=some x') (hy:Qd y=some y') (hz:Qd z=some z') {ce:Zc}
  (hv:Zh6 (evO sl y') (evO sl z') (evO sl x')=some ce):Vk P Γ I o a w ce:=by
 have h1:=hs.ev hx
 unfold Zh6 at hv
 split at hv
 ·rename_i t hx'
  rw[hx'] at h1
  have h2:=Zgu h1
  split at hv
  ·rename_i ht
   subst ht
   exact⟨a.eval y,_,.inl (by simp[execOp,ho,h2,asBool]),QP hv,hs.ev hy⟩
  ·rename_i ht
   simp at ht
   subst ht
   exact⟨a.eval z,_,.inl (by simp[execOp,ho,h2,asBool]),QP hv,hs.ev hz⟩
 ·cases hv
theorem Zzn {o:Oper} {t:TypeId} {x:Operand} {y:Opd} {g:Bool} (ho:o.op=.load t x) (hs:Zdx Γ w I sl a) (hh:ZbH Γ w I F A hp) (hg:ZgC P t=some g) (hc:Qd x=some y) {ce:Zc}
  (hv:WL (JU hp g (P.cellsOf t) (evO sl y))=some ce):Vk P Γ I o a w ce:=by
 obtain⟨r,h1,h2⟩:=opt1_some hv
 obtain⟨u,h3,h4⟩:=ZuL (P:=P) hg hh (hs.ev hc) h1
 exact⟨u,r,.inl (by simp[execOp,ho,h3]),h2,h4⟩
theorem ZqW {o:Oper} {x:Operand} {y:Opd} (ho:o.op=.nilCheck x) (hs:Zdx Γ w I sl a) (hc:Qd x=some y) {ce:Zc} (hv:Za1 (evO sl y)=some ce):Vk P Γ I o a w ce:=by
 have h1:=hs.ev hc
 unfold Za1 at hv
 split at hv
 ·rename_i h;rw[h] at h1;obtain⟨b,h2,h3⟩:=h1
  exact⟨_,_,.inl (by simp[execOp,ho,h3]),QP hv,b,h2,rfl⟩
 ·rename_i h;rw[h] at h1;obtain⟨b,n,c,h2,h3,h4⟩:=h1
  exact⟨_,_,.inl (by simp[execOp,ho,h4]),QP hv,b,n,c,h2,h3,rfl⟩
 ·rename_i h;rw[h] at h1;obtain⟨b,o',vs,h2,h3⟩:=h1
  exact⟨_,_,.inl (by simp[execOp,ho,h2]),QP hv,b,o',vs,rfl,h3⟩
 ·rename_i h;rw[h] at h1;obtain⟨us,h2,h3⟩:=h1
  exact⟨_,_,.inl (by simp[execOp,ho,h2]),QP hv,us,rfl,h3⟩
 ·cases hv
theorem ZnE {op:BinOp} {t:TypeId} {x y:Operand} {u v:Value} (hu:∀ c,u≠.agg c) (hn:u≠.nilIface):(eqGuard op t x y u v).run P w=.ok () w:=by
 unfold eqGuard
 cases op<;>simp<;>(cases u<;>simp at hu hn ⊢)
theorem Ztf {t:TypeId} (h:P.underlying t=some .bool) (x y:Bool):(binOp .eql t (.bool x) (.bool y)).run P w=.ok (.bool (x==y)) w:=by
 have h1:binOp .eql t (.bool x) (.bool y)=(do let r ← Op.equalIn (9999+1) t (.bool x) (.bool y);pure (.bool r)):=rfl
 rw[h1,Sem.run_bind,run_equalIn_bool' w 9999 t x y h]
 rfl
theorem Ztg {t:TypeId} (h:P.underlying t=some .bool) (x y:Bool):(binOp .neq t (.bool x) (.bool y)).run P w=.ok (.bool (!(x==y))) w:=by
 have h1:binOp .neq t (.bool x) (.bool y)=(do let r ← Op.equalIn (9999+1) t (.bool x) (.bool y);pure (.bool (!r))):=rfl
 rw[h1,Sem.run_bind,run_equalIn_bool' w 9999 t x y h]
 rfl
theorem Zth {t:TypeId} (h:ZjC P t=true):P.underlying t=some .bool:=by
 unfold ZjC at h;split at h
 ·assumption
 ·cases h
theorem ZAX {o:Oper} {op:BinOp} {t ty' : TypeId} {x y:Operand} {x' y' : Opd} (ho:o.op=.binOp op t x y ty') (hs:Zdx Γ w I sl a) (hx:Qd x=some x') (hy:Qd y=some y') {ce:Zc}
  (hv:ZiC op (ZjC P t) (evO sl x') (evO sl y')=some ce):Vk P Γ I o a w ce:=by
 have h1:=hs.ev hx
 have h2:=hs.ev hy
 have fin:∀ {d:D} {u:Value},(∀ c,a.eval x≠.agg c)→a.eval x≠.nilIface→(binOp op t (a.eval x) (a.eval y)).run P w=.ok u w→Yq w I d u→ce=ceV (.d d)→Vk P Γ I o a w ce:=
  fun h3 h4 h5 h6 h7=>⟨_,_,.inl (by simp[execOp,ho,ZnE h3 h4,h5]),h7,Q5.2 h6⟩
 unfold ZiC at hv
 split at hv
 ·rename_i p q hp' hq
  rw[hp'] at h1;rw[hq] at h2
  have e1:=Zgu h1
  have e2:=Zgu h2
  split at hv
  ·rename_i hb
   have hu:=Zth hb
   obtain⟨r,h3,h4⟩:=opt1_some hv
   unfold ZrB at h3
   split at h3
   ·cases h3
    exact fin (by simp[e1]) (by simp[e1]) (by rw[e1,e2];exact Ztf hu _ _) (ZdO _) h4
   ·cases h3
    exact fin (by simp[e1]) (by simp[e1]) (by rw[e1,e2];exact Ztg hu _ _) (ZdO _) h4
   ·cases h3
  ·cases hv
 ·obtain⟨r,h3,h4⟩:=opt1_some hv
  unfold vbin at h3
  split at h3
  ·rename_i k p k' q hp' hq
   rw[hp'] at h1;rw[hq] at h2
   have e1:=rep_int h1
   have e2:=rep_int h2
   unfold ZaV at h3
   split at h3
   ·obtain⟨d,h5,h6⟩:=Za h3;cases h6
    obtain⟨u,h7,h8⟩:=Zpv (P:=P) (w:=w) (I:=I) (k':=k') h5 t
    exact fin (by simp[e1]) (by simp[e1]) (by rw[e1,e2];exact h7) h8 h4
   ·obtain⟨d,h5,h6⟩:=Za h3;cases h6
    obtain⟨u,h7,h8⟩:=Zpv (P:=P) (w:=w) (I:=I) (k':=k') h5 t
    exact fin (by simp[e1]) (by simp[e1]) (by rw[e1,e2];exact h7) h8 h4
   ·split at h3
    ·rename_i hk
     subst hk
     obtain⟨d,h5,h6⟩:=Za h3;cases h6
     obtain⟨u,h7,h8⟩:=ZAV (P:=P) (w:=w) (I:=I) h5 t
     exact fin (by simp[e1]) (by simp[e1]) (by rw[e1,e2];exact h7) h8 h4
    ·cases h3
  ·rename_i p q hp' hq
   rw[hp'] at h1;rw[hq] at h2
   obtain⟨s1,e1,rfl⟩:=Zhj h1
   obtain⟨s2,e2,rfl⟩:=Zhj h2
   obtain⟨d,h5,h6⟩:=Za h3;cases h6
   obtain⟨u,h7,h8⟩:=ZAW (P:=P) (w:=w) (I:=I) h5 t
   exact fin (by simp[e1]) (by simp[e1]) (by rw[e1,e2];exact h7) h8 h4
  ·cases h3
theorem ZC4 {o:Oper} {op:UnOp} {t:TypeId} {x:Operand} {x' : Opd} (ho:o.op=.unOp op t x) (hs:Zdx Γ w I sl a) (hx:Qd x=some x') {ce:Zc}
  (hv:WL (vun op (evO sl x'))=some ce):Vk P Γ I o a w ce:=by
 have h1:=hs.ev hx
 obtain⟨r,h3,h4⟩:=opt1_some hv
 unfold vun at h3
 split at h3
 ·rename_i hq
  rw[hq] at h1
  have e1:=rep_int h1
  unfold neg1 at h3
  split at h3
  ·cases h3
   exact⟨_,_,.inl (by simp[execOp,ho,e1,Op.unary,Op.intArith]),h4,ZdZ _ _⟩
  ·cases h3
 ·rename_i hq
  rw[hq] at h1
  have e1:=Zgu h1
  unfold not1 at h3
  split at h3
  ·cases h3
   exact⟨_,_,.inl (by simp[execOp,ho,e1,Op.unary]),h4,Zzd _⟩
  ·cases h3
 ·cases h3
theorem Zzo {o:Oper} {s d:TypeId} {x:Operand} {x' : Opd} {c:COp} (ho:o.op=.convert s d x) (hs:Zdx Γ w I sl a) (hx:Qd x=some x') (hc:Zx4 x' (ZbK P s) (ZbK P d) (Zzk P s) (Zzk P d)=some c)
  {C:Orc} {M:Zt} {base:Nat} {ce:Zc} (hv:vop C M sl hp base c=some ce):Vk P Γ I o a w ce:=by
 have h1:=hs.ev hx
 unfold Zx4 at hc
 split at hc
 ·rename_i k k' hk hk'
  cases hc
  simp only[vop,Abs.convI] at hv
  split at hv
  ·rename_i hq
   rw[hq] at h1
   have e1:=rep_int h1
   exact⟨_,_,.inl (by simp[execOp,ho,e1,convert,run_underlying (Zr0 hk),run_underlying (Zr0 hk'),Conv.intToInt]),QP hv,ZdZ _ _⟩
  ·cases hv
 ·split at hc
  ·rename_i hh
   cases hc
   simp at hh
   simp only[vop,Abs.convS] at hv
   split at hv
   ·rename_i hq
    rw[hq] at h1
    obtain⟨s1,e1,e2⟩:=Zhj h1
    exact⟨_,_,.inl (by simp[execOp,ho,e1,convert,run_underlying (ZaH hh.1),run_underlying (ZaH hh.2)]),QP hv,ZuH e2⟩
   ·cases hv
  ·cases hc
theorem Zzp {o:Oper} {t:TypeId} {f:Nat} {x:Operand} {x' : Opd} {q:Nat×TypeId} {g:Bool} (ho:o.op=.field t x f) (hs:Zdx Γ w I sl a) (hq:Zhm P t f=some q) (hg:ZgC P q.2=some g) (hx:Qd x=some x')
  {ce:Zc} (hv:WL (Zlt g (P.cellsOf q.2) q.1 (evO sl x'))=some ce):Vk P Γ I o a w ce:=by
 obtain⟨r,h3,h4⟩:=opt1_some hv
 obtain⟨cs,u,h5,h6,h7⟩:=ZuJ (P:=P) hg (hs.ev hx) h3
 obtain⟨fs,y,h8,h9,h10,h11,h12⟩:=Ziw hq
 refine⟨u,r,.inl ?_,h4,h7⟩
 simp[execOp,ho,Instr.field,run_underlying h8,h9,h5,asAgg,h10,h11,h6]
theorem ZwM {o:Oper} {t:TypeId} {f:Nat} {x:Operand} {x' : Opd} {q:Nat×TypeId} (ho:o.op=.fieldAddr t x f) (hs:Zdx Γ w I sl a) (hq:Zhm P t f=some q) (hx:Qd x=some x')
  {ce:Zc} (hv:WM q.1 (evO sl x')=some ce):Vk P Γ I o a w ce:=by
 obtain⟨u,r,h1,h2,h3⟩:=Zzf (P:=P) hq (hs.ev hx) hv
 exact⟨u,r,.inl (by simp[execOp,ho,h1]),h2,h3⟩
theorem ZAY {o:Oper} {i:Nat} {x:Operand} {x' : Opd} (ho:o.op=.extract x i) (hs:Zdx Γ w I sl a) (hx:Qd x=some x')
  {ce:Zc} (hv:Zta i (evO sl x')=some ce):Vk P Γ I o a w ce:=by
 have h1:=hs.ev hx
 unfold Zta at hv
 split at hv
 ·rename_i vs hq
  rw[hq] at h1
  obtain⟨us,h2,h3⟩:=h1
  obtain⟨r,h4,h5⟩:=opt1_some hv
  obtain⟨u,h6,h7⟩:=h3.get i r h4
  have h6' : us[i]?=some u:=by simpa using h6
  exact⟨u,r,.inl (by simp[execOp,ho,Instr.extract,h2,h6']),h5,h7.rep⟩
 ·cases hv
theorem Zpx {x y:AV} {u v:Value} {ce:Zc} (hx:Rep Γ w I x u) (hy:Rep Γ w I y v) (at_:Array TypeId) (ty:TypeId) :
  (Zlw x y=some ce→∃ z r,(Builtin.min_ at_ ty #[u,v]).run P w=.ok z w∧ce=ceV r∧Rep Γ w I r z) ∧
  (Zlx x y=some ce→∃ z r,(Builtin.max_ at_ ty #[u,v]).run P w=.ok z w∧ce=ceV r∧Rep Γ w I r z):=by
 constructor
 ·intro h
  unfold Zlw at h
  split at h
  ·split at h
   ·rename_i hk
    subst hk
    rw[rep_int hx,rep_int hy]
    exact⟨_,_,by simp[Builtin.min_,Builtin.min2];rfl,QP h,ZdZ _ _⟩
   ·cases h
  ·cases h
 ·intro h
  unfold Zlx at h
  split at h
  ·split at h
   ·rename_i hk
    subst hk
    rw[rep_int hx,rep_int hy]
    exact⟨_,_,by simp[Builtin.max_,Builtin.max2];rfl,QP h,ZdZ _ _⟩
   ·cases h
  ·cases h
theorem ZwN {o:Oper} {t:TypeId} {x i:Operand} {x' i' : Opd} {c:COp} (ho:o.op=.index t x i) (hs:Zdx Γ w I sl a) (hx:Qd x=some x') (hi:Qd i=some i')
  (hc:Ztc P x' i' (ZbK P t) (ZkE P t)=some c) {C:Orc} {M:Zt} {base:Nat} {ce:Zc} (hv:vop C M sl hp base c=some ce):Vk P Γ I o a w ce:=by
 have h1:=hs.ev hx
 have h2:=hs.ev hi
 unfold Ztc at hc
 split at hc
 ·rename_i hst
  cases hc
  simp only[vop] at hv
  obtain⟨n,hn,hv⟩:=Za hv
  obtain⟨k,e2⟩:=Zae hn h2
  unfold ZuP at hv
  split at hv
  ·rename_i s hq
   rw[hq] at h1
   obtain⟨s1,e1,rfl⟩:=Zhj h1
   unfold Zr6 at hv
   split at hv
   ·rename_i h0
    obtain⟨b,hb,hv⟩:=Za hv
    have hb' : s1[n.toNat]?=some b:=by
     have:s1.data[n.toNat]?=some b:=by simpa using hb
     exact this
    exact⟨_,_,.inl (by simp[execOp,ho,e1,e2,Instr.index,asIntOf,run_underlying (ZaH hst),h0,hb']),QP hv,ZdZ _ _⟩
   ·cases hv
  ·cases hv
 ·obtain⟨q,hq,hc⟩:=Za hc
  obtain⟨g,hg,hc⟩:=Za hc
  cases hc
  simp only[vop] at hv
  obtain⟨n,hn,hv⟩:=Za hv
  obtain⟨k,e2⟩:=Zae hn h2
  unfold ZwB at hv
  split at hv
  ·rename_i hb
   obtain⟨r,h3,h4⟩:=opt1_some hv
   obtain⟨cs,u,h5,h6,h7⟩:=ZuJ (P:=P) hg h1 h3
   obtain⟨ii,hii⟩:=Zjy hg
   exact⟨u,r,.inl (by simp[execOp,ho,h5,e2,Instr.index,asIntOf,run_underlying (Zr1 hq),hb.1,hb.2,Xu hii,h6]),h4,h7⟩
  ·cases hv
end
end Go.Abs
