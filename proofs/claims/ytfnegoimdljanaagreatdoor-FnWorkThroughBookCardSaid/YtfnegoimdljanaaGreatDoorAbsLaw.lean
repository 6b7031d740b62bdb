import Derived.Test.YtfnegoimdljanaaGreatDoorAbsDraw5
import Derived.Test.YtfnegoimdljanaaGreatDoorAbsLib
import Derived.WalkKit
import Derived.ProofKit
import Derived.OpenShut
import Derived.Below
import Derived.Carry
import Derived.ChangeSlices
set_option linter.unusedSimpArgs false
set_option linter.unusedVariables false
namespace Go.Abs.L
open Go Go.Abs Go.ChangeShapes Go.WideShapes Go.ChangeAt Go.RowKit
theorem ZzL {P:Program} {X:Fns} {M:Zq} (hS:QJ P (Zd X M)) {f:FuncId} (hv:∀ aa:List UInt8,Zd X M f [.d (.sl (aa.map UF))] []=some (.d (.bool true),[]))
  {W:World} (hG:ZjF (fun b=>b<W.heap.size) W) {v:Value} {aa:List UInt8} (hr:ZP W (fun b=>b<W.heap.size) (.sl (aa.map UF)) [v]) :
  Calls P f #[v] W fun e W'=>e=.returned (.bool true)∧Below W.heap.size W W':=by
 obtain⟨_,hs⟩:=hS _ _ _ _ _ (hv aa);have h:=hs (fun b=>W.heap.size≤b) (fun b=>W.heap.size≤b) (fun b=>b<W.heap.size) (fun _=>none) [v] W
  ⟨⟨Qi.2 hr,trivial⟩,fun id o hl=>(by cases hl),fun i j o o' b hi=>(by cases hi),fun b hb=>hb,fun b hb=>hb,fun b hb=>hb,fun _ _=>rfl,hG⟩
 refine h.mono fun e W' ⟨v',I',Γ',he,hb⟩=>?_;subst he;have ab:=Qi.1 hb.res;have e1:v'=.bool true:=by
  have:[v']=[Value.bool true]:=ab;simpa using this
 subst e1;exact⟨rfl,⟨hb.fr.os,hb.fr.tape,hb.fr.output,hb.fr.size,fun k hk=>hb.fr.block k hk o_⟩⟩
theorem ZzM {H:Type} {enc:TypeId×Value→H} {P:Program} {W:World} {t e:TypeId} (ht:P.underlying t=some (.slice e)) (he:P.underlying e=some (.int .u8)) (hc:P.cellsOf e=1) {base:Nat} {v:Value} {d:DataW H} {p:List MemPlace}
  (af:Value.okWide P W .any base t v) (h:DataW.Trod enc P W 0 (fun _=>true) true t v d p):∃ code:List UInt8,ZP W (fun b=>b<W.heap.size) (.sl (code.map UF)) [v]:=by
 obtain⟨a1,len,ai,rfl⟩:=okWide_slice ht af;obtain⟨aj,hf⟩:=h;rcases open_ints ht he hc hf with ⟨ab,hx⟩ | ⟨a,ak,al,zs,ab,_,hl,hm,hz,hx,aa,am⟩
 ·simp[Value.cells] at ab;obtain⟨rfl,rfl,rfl⟩:=ab;exact⟨[],none,0,rfl,Kp _,.inl rfl⟩
 ·simp[Value.cells] at ab;obtain⟨rfl,rfl,rfl⟩:=ab;simp only[Kl] at hz;refine⟨(zs.take len).map fun n=>UInt8.ofNat n.toNat,?_⟩;have ad:(((zs.take len).map fun n=>UInt8.ofNat n.toNat).map UF).length=len:=by simp;omega
  refine⟨some a,ai,by rw[ad],by rw[ad];exact hl,?_⟩;by_cases h0:len=0
  ·left;rw[h0];simp
  ·right
   obtain⟨b,off,ag⟩:=a;have ae:ag=none:=by simpa [Addr.add] using World.cell?_spot (aa 0 o_)
   subst ae;have hb:b<W.heap.size:=by
    have h1:=aa 0 o_;rcases K7 b W.heap.size with h | h
    ·exact h
    ·exfalso
     have:W.heap[b]?=none:=by simp[h]
     simp[World.cell?,Addr.add,this] at h1
   refine⟨b,off,1,rfl,hb,o_,?_⟩;rw[X3];intro i x hx;simp only[Ld] at hx;cases hi:(zs.take len)[i]? with
   | none=>rw[hi] at hx;cases hx
   | some z=>
    rw[hi] at hx;simp only[K4,Option.some.injEq] at hx;subst hx;have an:i<len:=by
     have:=(Kc.1 hi).1;simp at this;omega
    have ao:i<zs.length:=o_
    have ah:zs[i]?=some z:=by
     rw[Lp] at hi;simpa [an] using hi
    have hw:=bounds_u8 (am z (Kb ah));refine⟨[.int .u8 z],rfl,fun j u hu=>?_,?_⟩
    ·have hj:j=0:=by
      have:=(Kc.1 hu).1;simp at this;exact this
     subst hj;simp at hu;subst hu;have:=aa i ao;rw[Addr.add_lit] at this;have e2:zs.getD i 0=z:=by rw[List.getD_eq_getElem?_getD,ah];rfl
     rw[e2] at this;simpa using this
    ·show [Value.int .u8 z]=[.int .u8 (UInt8.ofNat z.toNat).toNat];have:((UInt8.ofNat z.toNat).toNat:Int)=z:=by
      rw[UInt8.toNat_ofNat'];omega
     rw[this]
end Go.Abs.L
