/- The abstract semantics and the model: slices,arithmetic,parts. Own text. -/
import Derived.Test.YtemkonmgcoceaaaDoorAbsExec
set_option linter.unusedVariables false
set_option linter.unusedSimpArgs false
namespace Go.Abs
open Go
section
variable {P:Program} {Γ:Gh} {w:World} {I:Nat→Prop} {F A:Nat→Prop} {hp:Hp}
def Zmf (Γ:Gh) (w:World) (I:Nat→Prop):Option AV→Option Value→Prop
 | none,none=>True
 | some x,some v=>Rep Γ w I x v
 | _,_=>False
theorem Uc.evM {sl:Sl} {a:Act} (h:Uc Γ w I sl a) {x:Option Operand} {y:Option Opd} (hc:cOO x=some y):Zmf Γ w I (evM sl y) (x.map a.eval):=by
 cases x with
 | none=>simp only[cOO] at hc;cases hc;exact trivial
 | some x=>
  simp only[cOO] at hc
  obtain⟨y',h1,hc⟩:=Za hc
  cases hc
  exact h.ev h1
theorem Zpk {m n c:Nat} (hmc:m≤c) {x:AV} {v:Value} (h:Rep Γ w I x v) (hb:bd m x=some n) (code:BoundsCode) :
  (Instr.sliceBound v c code).run P w=.ok n w∧n≤m:=by
 unfold bd at hb
 obtain⟨i,hi,hb⟩:=Za hb
 obtain⟨k,rfl⟩:=Vf hi h
 split at hb
 ·rename_i hc
  cases hb
  refine⟨run_sliceBound w k i c code hc.1 (by omega),by omega⟩
 ·cases hb
theorem J1 {len cap:Nat} (hlc:len≤cap) {lo hi:Option AV} {vlo vhi:Option Value} (hl:Zmf Γ w I lo vlo) (hh:Zmf Γ w I hi vhi) {b:Nat×Nat} (hb:ZjA len lo hi=some b) (isSlice:Bool) :
  (Instr.sliceBounds isSlice len cap vlo vhi none).run P w=.ok (b.1,b.2,cap) w∧b.1≤b.2∧b.2≤len:=by
 unfold ZjA at hb
 obtain⟨h,h1,hb⟩:=Za hb
 obtain⟨l,h2,hb⟩:=Za hb
 cases hb
 have hH:(match vhi with | some v=>Instr.sliceBound v cap (if isSlice then .sliceAcap else .sliceAlen) | none=>pure len:Sem Nat).run P w=.ok h w∧h≤len:=by
  cases hi with
  | none=>cases vhi with
   | none=>simp only[hiOf] at h1;cases h1;exact⟨rfl,Nat.le_refl _⟩
   | some v=>exact hh.elim
  | some x=>cases vhi with
   | none=>exact hh.elim
   | some v=>exact Zpk hlc hh h1 _
 have hL:(match vlo with | some v=>Instr.sliceBound v h .sliceB | none=>pure 0:Sem Nat).run P w=.ok l w∧l≤h:=by
  cases lo with
  | none=>cases vlo with
   | none=>simp only[loOf] at h2;cases h2;exact⟨rfl,Nat.zero_le _⟩
   | some v=>exact hl.elim
  | some x=>cases vlo with
   | none=>exact hl.elim
   | some v=>exact Zpk (Nat.le_refl _) hl h2 _
 refine⟨?_,hL.2,hH.2⟩
 unfold Instr.sliceBounds
 cases vhi<;>cases vlo<;>simp only[] at hH hL<;>simp[hH.1,hL.1]<;>(simp at hH hL;simp[hH,hL])
theorem Zjw (a:Addr) (x y:Nat):(a.add x).add y=a.add (x+y):=by
 unfold Addr.add
 by_cases hx:x=0
 ·simp[hx]
 ·by_cases hy:y=0
  ·simp[hx,hy]
  ·have:x+y≠0:=by omega
   simp[hx,hy,this,Nat.add_assoc]
theorem Jt (a:Addr):a.add 0=a:=by simp[Addr.add]
theorem Zoe {t e:TypeId} (he:Xr P t=some e) (hi:∃ i,P.info? e=some i) (ho:Wl Γ w I F A hp) {lo hi' : Option AV} {vlo vhi:Option Value} (hl:Zmf Γ w I lo vlo) (hh:Zmf Γ w I hi' vhi)
  {x r:AV} {v:Value} (h:Rep Γ w I x v) (hp' : Yn hp (P.cellsOf e) lo hi' x=some r) :
  ∃ u,(Instr.sliceAt t v vlo vhi none).run P w=.ok u w∧Rep Γ w I r u:=by
 obtain⟨i,hi⟩:=hi
 have hu:=Qy he
 have key:∀ (a:Option Addr) (n c:Nat) (b:Nat×Nat),(Instr.sliceBounds true n c vlo vhi none).run P w=.ok (b.1,b.2,c) w →
   (Instr.sliceAt t (.slice a n c) vlo vhi none).run P w=.ok (.slice (if c=b.1 then a else a.map (·.add (b.1*P.cellsOf e))) (b.2-b.1) (c-b.1)) w:=by
  intro a n c b hb
  simp[Instr.sliceAt,Instr.slice,run_underlying hu,hb,Qz hi]
 unfold Yn at hp'
 split at hp'
 ·rename_i xs
  split at hp'
  ·rename_i huni
   obtain⟨b,hb,hp'⟩:=Za hp'
   cases hp'
   have:=Z9.1 h
   simp only[QD,ZD] at this
   obtain⟨a,c,hv,hc,h1⟩:=this
   simp at hv
   subst hv
   obtain⟨hr,h2,h3⟩:=J1 (P:=P) hc hl hh hb true
   refine⟨_,key _ _ _ _ hr,Z9.2 ?_⟩
   have hlen:((xs.take b.2).drop b.1).length=b.2-b.1:=by simp;omega
   refine⟨_,c-b.1,by rw[hlen],by omega,?_⟩
   by_cases hz:b.2=b.1
   ·left;exact List.eq_nil_of_length_eq_zero (by omega)
   ·right
    rcases h1 with h1 | ⟨bb,o,sz,rfl,hI,h0,hrE⟩
    ·subst h1;simp at h3;omega
    ·have hne:¬c=b.1:=by omega
     obtain⟨y,hy⟩:∃ y,xs[0]?=some y:=⟨_,List.getElem?_eq_getElem (by omega)⟩
     have hsz:sz=P.cellsOf e:=by
      obtain⟨vs,h4,h5,h6⟩:=QZ.1 hrE 0 y hy
      rw[← h4,h6.length]
      exact huni y (List.mem_of_getElem? hy)
     subst hsz
     refine⟨bb,o+b.1*P.cellsOf e,P.cellsOf e,by simp[hne,Y8],hI,h0,?_⟩
     rw[QZ] at hrE ⊢
     intro j z hz'
     rw[List.getElem?_drop,List.getElem?_take] at hz'
     split at hz'
     ·obtain⟨vs,h4,h5,h6⟩:=hrE _ z hz'
      exact⟨vs,h4,by rw[Nat.add_mul,← Nat.add_assoc] at h5;exact h5,h6⟩
     ·cases hz'
  ·cases hp'
 ·obtain⟨b,hb,hp'⟩:=Za hp'
  cases hp'
  obtain⟨a,rfl⟩:=h
  obtain⟨hr,h2,h3⟩:=J1 (P:=P) (Nat.le_refl 0) hl hh hb true
  have hb1:b.1=0:=by omega
  have hb2:b.2=0:=by omega
  exact⟨_,key _ _ _ _ hr,a,by simp[hb1,hb2]⟩
 ·rename_i id
  obtain⟨a,n,c,sz,hb,rfl⟩:=h
  unfold UN at hp'
  split at hp'
  ·rename_i sz' xs ex fz hlk
   split at hp'
   ·rename_i hsz
    obtain⟨a',n',c',hb',hn,hro⟩:=ho id _ hlk
    rw[hb] at hb';cases hb'
    subst hsz
    have hnc:n≤c:=by
     rcases hro with hro | ⟨g,cur,e',_,_,_,hro,_⟩<;>omega
    unfold ZkZ at hp'
    split at hp'
    ·cases hp'
     cases vlo with
     | some v=>exact hl.elim
     | none=>cases vhi with
      | some v=>exact hh.elim
      | none=>
       refine⟨_,key _ _ _ (0,n) (by simp[Instr.sliceBounds]),a,n,c,_,hb,?_⟩
       simp[Jt]
    ·obtain⟨b,hb2,hp'⟩:=Za hp'
     cases hp'
     rw[← hn] at hb2
     obtain⟨hr,h2,h3⟩:=J1 (P:=P) hnc hl hh hb2 true
     refine⟨_,key _ _ _ _ hr,a,n,c,_,_,hb,by omega,hnc,rfl,?_,?_⟩
     ·intro h0;simp[h0,Jt]
     ·by_cases hcb:c=b.1
      ·right;exact hcb
      ·left;simp[hcb]
   ·cases hp'
  ·cases hp'
 ·rename_i id off n
  obtain⟨a0,m,c,sz,a,hb,h1,h2,rfl,h3,h4⟩:=h
  unfold Wn at hp'
  split at hp'
  ·rename_i sz' xs ex fz hlk
   split at hp'
   ·rename_i hsz
    obtain⟨b,hb2,hp'⟩:=Za hp'
    cases hp'
    obtain⟨a',n',c',hb',hn,hro⟩:=ho id _ hlk
    rw[hb] at hb';cases hb'
    subst hsz
    have hrr:(Instr.sliceBounds true n (c-off) vlo vhi none).run P w=.ok (b.1,b.2,c-off) w∧b.1≤b.2∧off+b.2≤m:=by
     cases hi' with
     | none=>
      obtain⟨h7,h8,h9⟩:=J1 (P:=P) (show n≤c-off by omega) hl hh hb2 true
      exact⟨h7,h8,by omega⟩
     | some hv=>
      cases vhi with
      | none=>exact hh.elim
      | some vh=>
       obtain⟨h7,h8,h9⟩:=J1 (P:=P) (show xs.length-off≤c-off by omega) hl hh hb2 true
       exact⟨h7,h8,by omega⟩
    obtain⟨hr,h5,h6⟩:=hrr
    refine⟨_,key _ _ _ _ hr,a0,m,c,_,_,hb,by omega,h2,by rw[Nat.sub_sub],?_,?_⟩
    ·intro h0
     have hoff:off=0:=by omega
     have hb0:b.1=0:=by omega
     simp[hb0,Jt,h3 hoff]
    ·by_cases hcb:c-off=b.1
     ·right;omega
     ·left
      simp only[hcb,if_false]
      rcases h4 with h4 | h4
      ·subst h4
       cases a0<;>simp[Zjw,Nat.add_mul]
      ·omega
   ·cases hp'
  ·cases hp'
 ·cases hp'
theorem ZcM (ho:Wl Γ w I F A hp) {x:AV} {v:Value} {n:Nat} (h:Rep Γ w I x v) (hn:Jr hp x=some n):∃ a c,v=.slice a n c∧n≤c:=by
 unfold Jr at hn
 split at hn
 ·cases hn
  have:=Z9.1 h
  simp only[QD,ZD] at this
  obtain⟨a,c,hv,hc,h1⟩:=this
  simp at hv
  exact⟨a,c,hv,hc⟩
 ·cases hn;obtain⟨a,rfl⟩:=h;exact⟨a,0,rfl,Nat.le_refl _⟩
 ·rename_i id
  obtain⟨xs,hx,hn⟩:=Za hn
  cases hn
  obtain⟨a,n,c,sz,hb,rfl⟩:=h
  unfold VQ at hx
  split at hx
  ·rename_i hlk
   cases hx
   obtain⟨a',n',c',hb',hn,hro⟩:=ho id _ hlk
   rw[hb] at hb';cases hb'
   refine⟨a,c,by rw[hn],?_⟩
   rcases hro with hro | ⟨g,cur,e',_,_,_,hro,_⟩<;>omega
  ·rename_i hlk
   cases hx
   obtain⟨a',n',c',hb',⟨hn,hro⟩,_⟩:=ho id _ hlk
   rw[hb] at hb';cases hb'
   refine⟨a,c,by rw[hn],?_⟩
   rcases hro with hro | ⟨g,cur,e',_,_,_,hro,_⟩<;>omega
  ·cases hx
 ·cases hn
  obtain⟨a0,m,c,sz,a,hb,h1,h2,rfl,_⟩:=h
  exact⟨a,_,rfl,by omega⟩
 ·cases hn
theorem Zmg {t e:TypeId} (he:Xr P t=some e) (hi:∃ i,P.info? e=some i) (ho:Wl Γ w I F A hp) {x y z r:AV} {v vh vm:Value} (h:Rep Γ w I x v) (hh:Rep Γ w I y vh) (hm:Rep Γ w I z vm)
  (hp' : slice0 hp x (idx y) (idx z)=some r):∃ u,(Instr.sliceAt t v none (some vh) (some vm)).run P w=.ok u w∧Rep Γ w I r u:=by
 obtain⟨i,hi⟩:=hi
 unfold slice0 at hp'
 split at hp'
 ·rename_i h1 h2
  obtain⟨n,hn,hp'⟩:=Za hp'
  cases hp'
  obtain⟨a,c,rfl,hc⟩:=ZcM ho h hn
  obtain⟨k1,rfl⟩:=Vf h1 hh
  obtain⟨k2,rfl⟩:=Vf h2 hm
  refine⟨.slice a 0 0,?_,a,rfl⟩
  simp[Instr.sliceAt,Instr.slice,run_underlying (Qy he),Instr.sliceBounds,Instr.sliceBound,asIntOf,Qz hi]
 ·cases hp'
theorem Zmh {t e:TypeId} (he:Xr P t=some e) (hi:∃ i,P.info? e=some i) (ho:Wl Γ w I F A hp) {x y z u r:AV} {v vl vh vm:Value} (h:Rep Γ w I x v) (hl:Rep Γ w I y vl) (hh:Rep Γ w I z vh) (hm:Rep Γ w I u vm)
  (hp' : slice3 hp x (idx y) (idx z) (idx u)=some r):∃ q,(Instr.sliceAt t v (some vl) (some vh) (some vm)).run P w=.ok q w∧Rep Γ w I r q:=by
 obtain⟨i,hi⟩:=hi
 unfold slice3 at hp'
 obtain⟨l,h1,hp'⟩:=Za hp'
 obtain⟨hI,h2,hp'⟩:=Za hp'
 obtain⟨m,h3,hp'⟩:=Za hp'
 obtain⟨n,h4,hp'⟩:=Za hp'
 split at hp'
 ·rename_i hc
  cases hp'
  obtain⟨c1,c2,c3,c4⟩:=hc
  obtain⟨a,c,rfl,hc⟩:=ZcM ho h h4
  obtain⟨k1,rfl⟩:=Vf h1 hl
  obtain⟨k2,rfl⟩:=Vf h2 hh
  obtain⟨k3,rfl⟩:=Vf h3 hm
  have e1:=run_sliceBound (P:=P) w k3 m c .slice3Acap (by omega) (by omega)
  have e2:=run_sliceBound (P:=P) w k2 hI m.toNat .slice3B (by omega) (by omega)
  have e3:=run_sliceBound (P:=P) w k1 l hI.toNat .slice3C (by omega) (by omega)
  exact⟨_,by simp[Instr.sliceAt,Instr.slice,run_underlying (Qy he),Instr.sliceBounds,e1,e2,e3,Qz hi];rfl,trivial⟩
 ·cases hp'
theorem Zqz {t e ty:TypeId} (he:Xr P t=some e) (ho:Wl Γ w I F A hp) {x:AV} {v:Value} {n:Nat} (h:Rep Γ w I x v) (hn:Jr hp x=some n) :
  (Builtin.len_ #[t] ty #[v]).run P w=.ok (.int .i64 n) w:=by
 obtain⟨a,c,rfl,hc⟩:=ZcM ho h hn
 simp[Builtin.len_,run_underlying (Qy he),goInt]
theorem Zpl {t ty:TypeId} (he:Wo P t=true) {x:AV} {v:Value} {n:Nat} (h:Rep Γ w I x v) (hn:ZnE x=some n) :
  (Builtin.len_ #[t] ty #[v]).run P w=.ok (.int .i64 n) w:=by
 unfold ZnE at hn
 split at hn
 ·cases hn
  obtain⟨s,rfl,rfl⟩:=Zay h
  simp[Builtin.len_,run_underlying (Vx he),goInt]
 ·cases hn
theorem Zmi {t:TypeId} (he:Wo P t=true) {lo hi' : Option AV} {vlo vhi:Option Value} (hl:Zmf Γ w I lo vlo) (hh:Zmf Γ w I hi' vhi)
  {x r:AV} {v:Value} (h:Rep Γ w I x v) (hp' : sliceS lo hi' x=some r) :
  ∃ u,(Instr.sliceAt t v vlo vhi none).run P w=.ok u w∧Rep Γ w I r u:=by
 unfold sliceS at hp'
 split at hp'
 ·obtain⟨b,hb,hp'⟩:=Za hp'
  cases hp'
  obtain⟨s,rfl,rfl⟩:=Zay h
  have hsz:s.data.toList.length=s.size:=rfl
  rw[hsz] at hb
  obtain⟨hr,h2,h3⟩:=J1 (P:=P) (Nat.le_refl _) hl hh hb false
  refine⟨.string (s.extract b.1 b.2),?_,ZkQ ?_⟩
  ·simp[Instr.sliceAt,Instr.slice,run_underlying (Vx he),hr]
  ·rw[ByteArray.data_extract,Array.toList_extract,List.extract_eq_take_drop,List.drop_take]
 ·cases hp'
theorem ZgO (k:IntKind) (n:Int):QD w I (.int k n) (.int k n):=by simp[QD,ZD]
theorem Up (b:Bool):QD w I (.bool b) (.bool b):=by simp[QD,ZD]
theorem Zpm {op:BinOp} {k:IntKind} {a b:Int} {d:D} (h:Vl op k a b=some d) (t:TypeId):∃ u,(binOp op t (.int k a) (.int k b)).run P w=.ok u w∧QD w I d u:=by
 cases op<;>simp only[Vl] at h<;>first
  | (cases h;exact⟨_,by simp[binOp,Op.intArith,Op.intBits,Op.intCmp],ZgO _ _⟩)
  | (cases h;exact⟨_,by simp[binOp,Op.intArith,Op.intBits,Op.intCmp],Up _⟩)
  | (split at h
     ·cases h
     ·rename_i hb;cases h;exact⟨_,by simp[binOp,Op.intDiv,hb],ZgO _ _⟩)
  | (cases h;done)
theorem ZgP {op:BinOp} {k k' : IntKind} {a b:Int} {d:D} (h:Zed op k a b=some d) (t:TypeId):∃ u,(binOp op t (.int k a) (.int k' b)).run P w=.ok u w∧QD w I d u:=by
 unfold Zed at h
 split at h
 ·cases h
 ·rename_i hb
  cases op<;>simp only[] at h<;>first
   | (cases h;exact⟨_,by simp[binOp,Op.shift,hb],ZgO _ _⟩)
   | (cases h;done)
theorem Zpn {op:BinOp} {x y:ByteArray} {d:D} (h:Zkj op x.data.toList y.data.toList=some d) (t:TypeId):∃ u,(binOp op t (.string x) (.string y)).run P w=.ok u w∧QD w I d u:=by
 have e1:(x.toList==y.toList)=(x.data.toList==y.data.toList):=by rw[ByteArray.toList_eq,ByteArray.toList_eq]
 cases op<;>simp only[Zkj] at h<;>first
  | (split at h
     ·rename_i hl
      cases h
      refine ⟨.string (x ++ y), ?_, ?_⟩
      ·have := run_string_add_sum (P := P) w x y (by
        have h1 : x.data.toList.length = x.size := rfl
        have h2 : y.data.toList.length = y.size := rfl
        simp only [ZlK] at hl; omega)
       simpa [binOp] using this
      ·simp [QD, ZD]
     ·cases h)
  | (cases h;exact⟨_,by simp[binOp,Op.stringOp,e1],Up _⟩)
  | (cases h;done)
end
end Go.Abs
