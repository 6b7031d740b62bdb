/- Arguments of any types of numbers,truth values,texts,rows and structs read as data. Own text. -/
import Derived.Test.YtemkonmgcoceaaaDoorAbsDraw5
import Derived.Test.YtemkonmgcoceaaaDoorAbsLib
import Derived.WalkKit
import Derived.ProofKit
import Derived.OpenShut
import Derived.Below
import Derived.Carry
import Derived.ChangeSlices
import Derived.ChangeArms
import Derived.DataReads
set_option linter.unusedVariables false
set_option linter.unusedSimpArgs false
namespace Go.Abs.L
open Go Go.Abs Go.ChangeShapes Go.WideShapes Go.ChangeAt Go.RowKit
theorem law_calls {P:Program} {X:Fns} {M:Zj} (hS:Z6 P (Zv X M)) {f:FuncId} (hv:∀ code:List UInt8,Zv X M f [.d (.sl (code.map Zof))] []=some (.d (.bool true),[]))
  {W:World} (hG:ZaI (fun b=>b<W.heap.size) W) {v:Value} {code:List UInt8} (hr:ZD W (fun b=>b<W.heap.size) (.sl (code.map Zof)) [v]) :
  Calls P f #[v] W fun e W'=>e=.returned (.bool true)∧Below W.heap.size W W':=by
 obtain⟨_,hs⟩:=hS _ _ _ _ _ (hv code)
 have h:=hs (fun b=>W.heap.size≤b) (fun b=>W.heap.size≤b) (fun b=>b<W.heap.size) (fun _=>none) [v] W
  ⟨⟨Z9.2 hr,trivial⟩,fun id o hl=>(by cases hl),fun i j o o' b hi=>(by cases hi),fun b hb=>hb,fun b hb=>hb,fun b hb=>hb,fun _ _=>rfl,hG⟩
 refine h.mono fun e W' ⟨v',I',Γ',he,hb⟩=>?_
 subst he
 have hres:=Z9.1 hb.res
 have e1:v'=.bool true:=by
  have:[v']=[Value.bool true]:=hres
  simpa using this
 subst e1
 exact⟨rfl,⟨hb.fr.os,hb.fr.tape,hb.fr.output,hb.fr.size,fun k hk=>hb.fr.block k hk (by omega)⟩⟩
theorem bytes_rep {H:Type} {enc:TypeId×Value→H} {P:Program} {W:World} {t e:TypeId} (ht:P.underlying t=some (.slice e)) (he:P.underlying e=some (.int .u8)) (hc:P.cellsOf e=1) {base:Nat} {v:Value} {d:DataW H} {p:List MemPlace}
  (hval:Value.okWide P W .any base t v) (h:DataW.Trod enc P W 0 (fun _=>true) true t v d p):∃ code:List UInt8,ZD W (fun b=>b<W.heap.size) (.sl (code.map Zof)) [v]:=by
 obtain⟨a1,len,cap,rfl⟩:=okWide_slice ht hval
 obtain⟨fuel,hf⟩:=h
 rcases open_ints ht he hc hf with ⟨hcs,hx⟩ | ⟨a,len',cap',zs,hcs,_,hl,hm,hz,hx,hcell,hwz⟩
 ·simp[Value.cells] at hcs
  obtain⟨rfl,rfl,rfl⟩:=hcs
  exact⟨[],none,0,rfl,Nat.le_refl _,.inl rfl⟩
 ·simp[Value.cells] at hcs
  obtain⟨rfl,rfl,rfl⟩:=hcs
  simp only[if_true] at hz
  refine⟨(zs.take len).map fun n=>UInt8.ofNat n.toNat,?_⟩
  have hlen:(((zs.take len).map fun n=>UInt8.ofNat n.toNat).map Zof).length=len:=by simp;omega
  refine⟨some a,cap,by rw[hlen],by rw[hlen];exact hl,?_⟩
  by_cases h0:len=0
  ·left;rw[h0];simp
  ·right
   obtain⟨b,off,spot⟩:=a
   have hspot:spot=none:=by simpa [Addr.add] using World.cell?_spot (hcell 0 (by omega))
   subst hspot
   have hb:b<W.heap.size:=by
    have h1:=hcell 0 (by omega)
    rcases Nat.lt_or_ge b W.heap.size with h | h
    ·exact h
    ·exfalso
     have:W.heap[b]?=none:=by simp[h]
     simp[World.cell?,Addr.add,this] at h1
   refine⟨b,off,1,rfl,hb,by omega,?_⟩
   rw[QZ]
   intro i x hx
   simp only[List.getElem?_map] at hx
   cases hi:(zs.take len)[i]? with
   | none=>rw[hi] at hx;cases hx
   | some z=>
    rw[hi] at hx
    simp only[Option.map_some,Option.some.injEq] at hx
    subst hx
    have hil:i<len:=by
     have:=(List.getElem?_eq_some_iff.1 hi).1
     simp at this;omega
    have hiz:i<zs.length:=by omega
    have hzi:zs[i]?=some z:=by
     rw[List.getElem?_take] at hi
     simpa [hil] using hi
    have hw:=bounds_u8 (hwz z (List.mem_of_getElem? hzi))
    refine⟨[.int .u8 z],rfl,fun j u hu=>?_,?_⟩
    ·have hj:j=0:=by
      have:=(List.getElem?_eq_some_iff.1 hu).1
      simp at this;exact this
     subst hj
     simp at hu
     subst hu
     have:=hcell i hiz
     rw[Addr.add_lit] at this
     have e2:zs.getD i 0=z:=by rw[List.getD_eq_getElem?_getD,hzi];rfl
     rw[e2] at this
     simpa using this
    ·show [Value.int .u8 z]=[.int .u8 (UInt8.ofNat z.toNat).toNat]
     have:((UInt8.ofNat z.toNat).toNat:Int)=z:=by
      rw[UInt8.toNat_ofNat']
      omega
     rw[this]
end Go.Abs.L
set_option linter.unusedVariables false
set_option linter.unusedSimpArgs false
namespace Go.Abs.L
open Go Go.Abs Go.ChangeShapes Go.WideShapes
def mkD:List D→D
 | [d]=>d
 | ds=>.agg ds
def TyD (P:Program):Nat→TypeId→List D→Prop
 | 0,_,_=>False
 | n+1,t,ds=>match P.underlying t with
  | some .bool=>∃ b,ds=[.bool b]
  | some (.int k)=>∃ z,ds=[.int k z]∧(Lit.int k z).wf=true
  | some .string=>∃ s:List UInt8,ds=[.str s]∧s.length≤maxLen
  | some (.slice e)=>∃ xs:List D,ds=[.sl xs]∧xs.length≤maxLen∧∀ x∈xs,∃ es,x=mkD es∧TyD P n e es
  | some (.struct fs)=>(fs.toList.foldr (fun f K ds=>∃ p q,ds=p++q∧TyD P n f.type p∧K q) (fun ds=>ds=[])) ds
  | _=>False
def ZeX (P:Program):Nat→List Field→Option Nat
 | o,[]=>some o
 | o,f :: r=>if f.offset=o then ZeX P (o+P.cellsOf f.type) r else none
def Zf6 (P:Program) (ts:List TypeId):Bool:=ts.all fun t=>match P.underlying t with
 | some .bool=>true
 | some (.int _)=>true
 | some .string=>true
 | some (.slice e)=>ts.contains e&&decide (0<P.cellsOf e)
 | some (.struct fs)=>fs.toList.all (fun f=>ts.contains f.type)&&ZeX P 0 fs.toList==some (P.cellsOf t)
 | _=>false
theorem Zbe {w:World} {S:Nat→Prop} {d:D} {v:Value} (h1:d.one=true) (h:ZD w S d [v]):QA w S [d] [v]:=by
 simp only[QA]
 exact⟨v,[],rfl,h1,h,rfl⟩
theorem Zbf {w:World} {S:Nat→Prop} {ds:List D} {vs:List Value} (h:QA w S ds vs):ZD w S (mkD ds) vs:=by
 match ds,h with
 | [],h=>simpa [mkD,ZD] using h
 | [d],h=>
  simp only[QA] at h
  obtain⟨v,r,rfl,h1,h2,rfl⟩:=h
  exact h2
 | d :: e :: r,h=>simpa [mkD,ZD] using h
theorem cells?_len {w:World} {base:Nat} {a:Addr} {n:Nat} {cs:List Value} (h:w.cells? base a n=some cs):cs.length=n∧∀ i,i<n→w.cell? (a.add i)=cs[i]?:=by
 unfold World.cells? at h
 split at h
 ·refine⟨by simpa using mapM_some_length h,fun i hi=>?_⟩
  have:=mapM_some_get h i i (by simp[hi])
  exact this
 ·cases h
theorem Zf7 {H:Type} {enc:TypeId×Value→H} {P:Program} {W:World} {sp:Nat→Bool} {ts:List TypeId} (hT:Zf6 P ts=true):∀ (n:Nat) (t:TypeId) (cs:List Value) (x:DataW H×List MemPlace),t∈ts →
  DataW.trod enc P W 0 sp true n t cs=some x→∃ ds,TyD P n t ds∧QA W (fun b=>b<W.heap.size) ds cs
 | 0,t,cs,x,_,h=>by simp[DataW.trod] at h
 | n+1,t,cs,x,ht,h=>by
  have hk:=List.all_eq_true.1 hT t ht
  cases hu:P.underlying t with
  | none=>rw[hu] at hk;cases hk
  | some k=>
   rw[hu] at hk
   cases k with
   | bool=>
    unfold DataW.trod at h
    rw[hu] at h
    split at h<;>simp_all
    rename_i b
    exact⟨[.bool b],by simp[TyD,hu],Zbe rfl rfl⟩
   | int k=>
    obtain⟨z,rfl,_,hw⟩:=DataW.trod_int hu h
    exact⟨[.int k z],by simp[TyD,hu,hw],Zbe rfl rfl⟩
   | string=>
    obtain⟨s,rfl,_,hw⟩:=DataW.trod_string hu h
    refine⟨[.str s.data.toList],?_,Zbe rfl ⟨s,rfl,rfl⟩⟩
    simp only[TyD,hu]
    exact⟨_,rfl,by simpa using hw⟩
   | slice e=>
    simp only[Bool.and_eq_true,List.contains_iff_mem,decide_eq_true_eq] at hk
    rcases DataW.trod_slice hu h with ⟨rfl,_⟩ | ⟨a,len,cap,elems,rest,m,hm,rfl,_,_,hlc,hcm,hel,hget,_,_⟩
    ·refine⟨[.sl []],?_,Zbe rfl ⟨none,0,rfl,Nat.le_refl _,.inl rfl⟩⟩
     simp only[TyD,hu]
     exact⟨[],rfl,by simp,by simp⟩
    ·cases hm
     have each:∀ i,i<len→∃ es cs',TyD P n e es∧QA W (fun b=>b<W.heap.size) es cs'∧W.cells? 0 (a.add (i*P.cellsOf e)) (P.cellsOf e)=some cs':=by
      intro i hi
      have h1:=hget i hi
      rw[List.getElem?_eq_getElem (by omega),Option.bind_eq_some_iff] at h1
      obtain⟨cs',h2,h3⟩:=h1
      obtain⟨es,h4,h5⟩:=Zf7 hT n e cs' _ hk.1 h3
      exact⟨es,cs',h4,h5,h2⟩
     obtain⟨f,hf⟩:∃ f:Nat→List D,∀ i,i<len→∃ cs',TyD P n e (f i)∧QA W (fun b=>b<W.heap.size) (f i) cs'∧W.cells? 0 (a.add (i*P.cellsOf e)) (P.cellsOf e)=some cs':=by
      refine⟨fun i=>if h:i<len then Classical.choose (each i h) else [],fun i hi=>?_⟩
      simp only[dif_pos hi]
      exact Classical.choose_spec (each i hi)
     have hlen:((List.range len).map fun i=>mkD (f i)).length=len:=by simp
     refine⟨[.sl ((List.range len).map fun i=>mkD (f i))],?_,Zbe rfl ⟨some a,cap,by rw[hlen],by rw[hlen];exact hlc,?_⟩⟩
     ·simp only[TyD,hu]
      refine⟨_,rfl,by rw[hlen];omega,fun x hx=>?_⟩
      obtain⟨i,hi,rfl⟩:=List.mem_map.1 hx
      obtain⟨_,h1,_⟩:=hf i (by simpa using hi)
      exact⟨_,rfl,h1⟩
     ·by_cases h0:len=0
      ·left;rw[h0];rfl
      ·right
       obtain⟨b,off,spot⟩:=a
       obtain⟨cs0,_,_,hc0⟩:=hf 0 (by omega)
       obtain⟨hl0,hg0⟩:=cells?_len hc0
       have hcell:=hg0 0 hk.2
       have hcs0:∃ v,cs0[0]?=some v:=⟨_,List.getElem?_eq_getElem (by omega)⟩
       obtain⟨v,hv⟩:=hcs0
       rw[hv] at hcell
       have hspot:spot=none:=by simpa [Addr.add] using World.cell?_spot hcell
       subst hspot
       have hb:b<W.heap.size:=by
        rcases Nat.lt_or_ge b W.heap.size with h | h
        ·exact h
        ·exfalso
         have:W.heap[b]?=none:=by simp[h]
         simp[World.cell?,Addr.add,this] at hcell
       refine⟨b,off,P.cellsOf e,rfl,hb,hk.2,?_⟩
       rw[QZ]
       intro i x hx
       have hil:i<len:=by
        have:=(List.getElem?_eq_some_iff.1 hx).1
        simpa using this
       rw[List.getElem?_map,List.getElem?_range hil] at hx
       cases hx
       obtain⟨cs',_,h2,h3⟩:=hf i hil
       obtain⟨g1,g2⟩:=cells?_len h3
       refine⟨cs',g1,fun j u hu'=>?_,Zbf h2⟩
       have hj:j<P.cellsOf e:=by
        have:=(List.getElem?_eq_some_iff.1 hu').1
        omega
       have:=g2 j hj
       rw[hu',Addr.add_lit,Addr.add_lit] at this
       exact this
   | struct fs=>
    simp only[Bool.and_eq_true,List.all_eq_true,List.contains_iff_mem,beq_iff_eq] at hk
    obtain⟨hk1,hk2⟩:=hk
    obtain⟨xs,m,hm,_,hcl,hxl,hf⟩:=DataW.trod_struct hu h
    cases hm
    have key:∀ (l:List Field) (i o:Nat),fs.toList.drop i=l→ZeX P o l=some (P.cellsOf t)→o≤cs.length →
      ∃ ds,(l.foldr (fun f K ds=>∃ p q,ds=p++q∧TyD P n f.type p∧K q) (fun ds=>ds=[])) ds∧QA W (fun b=>b<W.heap.size) ds (cs.drop o):=by
     intro l
     induction l with
     | nil=>
      intro i o _ ho _
      simp only[ZeX,Option.some.injEq] at ho
      refine⟨[],rfl,?_⟩
      rw[List.drop_of_length_le (by omega)]
      rfl
     | cons f r ih=>
      intro i o hd ho hle
      simp only[ZeX] at ho
      split at ho
      ·rename_i hfo
       have hi:fs.toList[i]?=some f:=by
        have:=congrArg (fun l=>l[0]?) hd
        simpa using this
       have hix:i<xs.length:=by
        have:=(List.getElem?_eq_some_iff.1 hi).1
        rw[hxl];simpa using this
       have h1:=hf i f (by simpa using hi)
       rw[List.getElem?_eq_getElem hix] at h1
       obtain⟨ds1,t1,r1⟩:=Zf7 hT n f.type _ _ (hk1 f (List.mem_of_getElem? hi)) h1
       have hmono:∀ (l:List Field) (a b:Nat),ZeX P a l=some b→a≤b:=by
        intro l
        induction l with
        | nil=>intro a b h;simp[ZeX] at h;omega
        | cons g l ih2=>
         intro a b h
         simp only[ZeX] at h
         split at h
         ·have:=ih2 _ _ h;omega
         ·cases h
       have hle2:=hmono _ _ _ ho
       obtain⟨ds2,t2,r2⟩:=ih (i+1) (o+P.cellsOf f.type) (by
        have:=congrArg List.tail hd
        simpa using this) ho (by omega)
       refine⟨ds1++ds2,⟨ds1,ds2,rfl,t1,t2⟩,?_⟩
       have e:cs.drop o=(cs.drop f.offset).take (P.cellsOf f.type)++cs.drop (o+P.cellsOf f.type):=by
        rw[hfo,← List.drop_drop,List.take_append_drop]
       rw[e]
       exact Qr.2 ((Qr.1 r1).append (Qr.1 r2))
      ·cases ho
    obtain⟨ds,h1,h2⟩:=key fs.toList 0 0 rfl hk2 (by omega)
    exact⟨ds,by simp only[TyD,hu];exact h1,by simpa using h2⟩
   | _=>cases hk
end Go.Abs.L
