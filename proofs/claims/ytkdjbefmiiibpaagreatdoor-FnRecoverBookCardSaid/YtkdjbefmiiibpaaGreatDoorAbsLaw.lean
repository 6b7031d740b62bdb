/- From the abstract semantics to a law's statement: a law of one row of bytes. Own text. -/
import Derived.Test.YtkdjbefmiiibpaaGreatDoorAbsDraw5
import Derived.Test.YtkdjbefmiiibpaaGreatDoorAbsLib
import Derived.WalkKit
import Derived.ProofKit
import Derived.OpenShut
import Derived.Below
import Derived.Carry
import Derived.ChangeSlices
set_option linter.unusedVariables false
set_option linter.unusedSimpArgs false
namespace Go.Abs.L
open Go Go.Abs Go.ChangeShapes Go.WideShapes Go.ChangeAt Go.RowKit
theorem Zmz {P:Program} {X:Fns} {M:Zt} (hS:QD P (Zh X M)) {f:FuncId} (hv:∀ code:List UInt8,Zh X M f [.d (.sl (code.map VM))] []=some (.d (.bool true),[]))
  {W:World} (hG:Zht (fun b=>b<W.heap.size) W) {v:Value} {code:List UInt8} (hr:Z2 W (fun b=>b<W.heap.size) (.sl (code.map VM)) [v]) :
  Calls P f #[v] W fun e W'=>e=.returned (.bool true)∧Below W.heap.size W W':=by
 obtain⟨_,hs⟩:=hS _ _ _ _ _ (hv code)
 have h:=hs (fun b=>W.heap.size≤b) (fun b=>W.heap.size≤b) (fun b=>b<W.heap.size) (fun _=>none) [v] W
  ⟨⟨Q5.2 hr,trivial⟩,fun id o hl=>(by cases hl),fun i j o o' b hi=>(by cases hi),fun b hb=>hb,fun b hb=>hb,fun b hb=>hb,fun _ _=>rfl,hG⟩
 refine h.mono fun e W' ⟨v',I',Γ',he,hb⟩=>?_
 subst he
 have hres:=Q5.1 hb.res
 have e1:v'=.bool true:=by
  have:[v']=[Value.bool true]:=hres
  simpa using this
 subst e1
 exact⟨rfl,⟨hb.fr.os,hb.fr.tape,hb.fr.output,hb.fr.size,fun k hk=>hb.fr.block k hk (by omega)⟩⟩
theorem ZmA {H:Type} {enc:TypeId×Value→H} {P:Program} {W:World} {t e:TypeId} (ht:P.underlying t=some (.slice e)) (he:P.underlying e=some (.int .u8)) (hc:P.cellsOf e=1) {base:Nat} {v:Value} {d:DataW H} {p:List MemPlace}
  (hval:Value.okWide P W .any base t v) (h:DataW.Trod enc P W 0 (fun _=>true) true t v d p):∃ code:List UInt8,Z2 W (fun b=>b<W.heap.size) (.sl (code.map VM)) [v]:=by
 obtain⟨a1,len,cap,rfl⟩:=okWide_slice ht hval
 obtain⟨fuel,hf⟩:=h
 rcases open_ints ht he hc hf with ⟨hcs,hx⟩ | ⟨a,len',cap',zs,hcs,_,hl,hm,hz,hx,hcell,hwz⟩
 ·simp[Value.cells] at hcs
  obtain⟨rfl,rfl,rfl⟩:=hcs
  exact⟨[],none,0,rfl,Nat.le_refl _,.inl rfl⟩
 ·simp[Value.cells] at hcs
  obtain⟨rfl,rfl,rfl⟩:=hcs
  simp only[if_true] at hz
  refine⟨(zs.take len).map fun n=>UInt8.ofNat n.toNat,?_⟩
  have hlen:(((zs.take len).map fun n=>UInt8.ofNat n.toNat).map VM).length=len:=by simp;omega
  refine⟨some a,cap,by rw[hlen],by rw[hlen];exact hl,?_⟩
  by_cases h0:len=0
  ·left;rw[h0];simp
  ·right
   obtain⟨b,off,spot⟩:=a
   have hspot:spot=none:=by simpa [Addr.add] using World.cell?_spot (hcell 0 (by omega))
   subst hspot
   have hb:b<W.heap.size:=by
    have h1:=hcell 0 (by omega)
    rcases Nat.lt_or_ge b W.heap.size with h | h
    ·exact h
    ·exfalso
     have:W.heap[b]?=none:=by simp[h]
     simp[World.cell?,Addr.add,this] at h1
   refine⟨b,off,1,rfl,hb,by omega,?_⟩
   rw[YZ]
   intro i x hx
   simp only[List.getElem?_map] at hx
   cases hi:(zs.take len)[i]? with
   | none=>rw[hi] at hx;cases hx
   | some z=>
    rw[hi] at hx
    simp only[Option.map_some,Option.some.injEq] at hx
    subst hx
    have hil:i<len:=by
     have:=(List.getElem?_eq_some_iff.1 hi).1
     simp at this;omega
    have hiz:i<zs.length:=by omega
    have hzi:zs[i]?=some z:=by
     rw[List.getElem?_take] at hi
     simpa [hil] using hi
    have hw:=bounds_u8 (hwz z (List.mem_of_getElem? hzi))
    refine⟨[.int .u8 z],rfl,fun j u hu=>?_,?_⟩
    ·have hj:j=0:=by
      have:=(List.getElem?_eq_some_iff.1 hu).1
      simp at this;exact this
     subst hj
     simp at hu
     subst hu
     have:=hcell i hiz
     rw[Addr.add_lit] at this
     have e2:zs.getD i 0=z:=by rw[List.getD_eq_getElem?_getD,hzi];rfl
     rw[e2] at this
     simpa using this
    ·show [Value.int .u8 z]=[.int .u8 (UInt8.ofNat z.toNat).toNat]
     have:((UInt8.ofNat z.toNat).toNat:Int)=z:=by
      rw[UInt8.toNat_ofNat']
      omega
     rw[this]
end Go.Abs.L
