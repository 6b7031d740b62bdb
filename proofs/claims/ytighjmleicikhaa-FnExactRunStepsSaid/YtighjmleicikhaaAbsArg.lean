/- Own text. -/
import Derived.Test.YtighjmleicikhaaAbsDraw5
import Derived.Test.YtighjmleicikhaaAbsLib
import Derived.WalkKit
import Derived.ProofKit
import Derived.OpenShut
import Derived.Below
import Derived.Carry
import Derived.ChangeSlices
import Derived.ChangeArms
import Derived.DataReads
set_option linter.unusedVariables false
set_option linter.unusedSimpArgs false
namespace Go.Abs.L
open Go Go.Abs Go.ChangeShapes Go.WideShapes Go.ChangeAt Go.RowKit
theorem law_calls {P:Program} {X:Fns} {M:Zg} (hS:Z7 P (Zj X M)) {f:FuncId} (hv:∀ aa:List UInt8,Zj X M f [.d (.sl (aa.map Zo1))] []=some (.d (.bool true),[]))
  {W:World} (hG:Zc0 (fun b=>b<W.heap.size) W) {v:Value} {aa:List UInt8} (hr:ZA W (fun b=>b<W.heap.size) (.sl (aa.map Zo1)) [v]) :
  Calls P f #[v] W fun e W'=>e=.returned (.bool true)∧Below W.heap.size W W':=by
 obtain⟨_,hs⟩:=hS _ _ _ _ _ (hv aa);have h:=hs (fun b=>W.heap.size≤b) (fun b=>W.heap.size≤b) (fun b=>b<W.heap.size) (fun _=>none) [v] W
  ⟨⟨QQ.2 hr,trivial⟩,fun id o hl=>(by cases hl),fun i j o o' b hi=>(by cases hi),fun b hb=>hb,fun b hb=>hb,fun b hb=>hb,fun _ _=>rfl,hG⟩
 refine h.mono fun e W' ⟨v',I',Γ',he,hb⟩=>?_;subst he;have ab:=QQ.1 hb.res;have e1:v'=.bool true:=by
  have:[v']=[Value.bool true]:=ab;simpa using this
 subst e1;exact⟨rfl,⟨hb.fr.os,hb.fr.tape,hb.fr.output,hb.fr.size,fun k hk=>hb.fr.block k hk (by omega)⟩⟩
theorem bytes_rep {H:Type} {enc:TypeId×Value→H} {P:Program} {W:World} {t e:TypeId} (ht:P.underlying t=some (.slice e)) (he:P.underlying e=some (.int .u8)) (hc:P.cellsOf e=1) {base:Nat} {v:Value} {d:DataW H} {p:List MemPlace}
  (af:Value.okWide P W .any base t v) (h:DataW.Trod enc P W 0 (fun _=>true) true t v d p):∃ code:List UInt8,ZA W (fun b=>b<W.heap.size) (.sl (code.map Zo1)) [v]:=by
 obtain⟨a1,len,ai,rfl⟩:=okWide_slice ht af;obtain⟨aj,hf⟩:=h;rcases open_ints ht he hc hf with ⟨ab,hx⟩ | ⟨a,ak,al,zs,ab,_,hl,hm,hz,hx,aa,am⟩
 ·simp[Value.cells] at ab;obtain⟨rfl,rfl,rfl⟩:=ab;exact⟨[],none,0,rfl,Kf _,.inl rfl⟩
 ·simp[Value.cells] at ab;obtain⟨rfl,rfl,rfl⟩:=ab;simp only[Kh] at hz;refine⟨(zs.take len).map fun n=>UInt8.ofNat n.toNat,?_⟩;have ad:(((zs.take len).map fun n=>UInt8.ofNat n.toNat).map Zo1).length=len:=by simp;omega
  refine⟨some a,ai,by rw[ad],by rw[ad];exact hl,?_⟩;by_cases h0:len=0
  ·left;rw[h0];simp
  ·right
   obtain⟨b,off,ag⟩:=a;have ae:ag=none:=by simpa [Addr.add] using World.cell?_spot (aa 0 (by omega))
   subst ae;have hb:b<W.heap.size:=by
    have h1:=aa 0 (by omega);rcases KK b W.heap.size with h | h
    ·exact h
    ·exfalso
     have:W.heap[b]?=none:=by simp[h]
     simp[World.cell?,Addr.add,this] at h1
   refine⟨b,off,1,rfl,hb,by omega,?_⟩;rw[Q8];intro i x hx;simp only[Lh] at hx;cases hi:(zs.take len)[i]? with
   | none=>rw[hi] at hx;cases hx
   | some z=>
    rw[hi] at hx;simp only[KO,Option.some.injEq] at hx;subst hx;have an:i<len:=by
     have:=(Kc.1 hi).1;simp at this;omega
    have ao:i<zs.length:=by omega
    have ah:zs[i]?=some z:=by
     rw[K0] at hi;simpa [an] using hi
    have hw:=bounds_u8 (am z (Kr ah));refine⟨[.int .u8 z],rfl,fun j u hu=>?_,?_⟩
    ·have hj:j=0:=by
      have:=(Kc.1 hu).1;simp at this;exact this
     subst hj;simp at hu;subst hu;have:=aa i ao;rw[Addr.add_lit] at this;have e2:zs.getD i 0=z:=by rw[List.getD_eq_getElem?_getD,ah];rfl
     rw[e2] at this;simpa using this
    ·show [Value.int .u8 z]=[.int .u8 (UInt8.ofNat z.toNat).toNat];have:((UInt8.ofNat z.toNat).toNat:Int)=z:=by
      rw[UInt8.toNat_ofNat'];omega
     rw[this]
end Go.Abs.L
set_option linter.unusedVariables false
set_option linter.unusedSimpArgs false
namespace Go.Abs.L
open Go Go.Abs Go.ChangeShapes Go.WideShapes
def mkD:List D→D
 | [d]=>d
 | ds=>.agg ds
def TyD (P:Program):Nat→TypeId→List D→Prop
 | 0,_,_=>False
 | n+1,t,ds=>match P.underlying t with
  | some .bool=>∃ b,ds=[.bool b]
  | some (.int k)=>∃ z,ds=[.int k z]∧(Lit.int k z).wf=true
  | some .string=>∃ s:List UInt8,ds=[.str s]∧s.length≤maxLen
  | some (.slice e)=>∃ xs:List D,ds=[.sl xs]∧xs.length≤maxLen∧∀ x∈xs,∃ es,x=mkD es∧TyD P n e es
  | some (.struct fs)=>(fs.toList.foldr (fun f K ds=>∃ p q,ds=p++q∧TyD P n f.type p∧K q) (fun ds=>ds=[])) ds
  | _=>False
def ZeO (P:Program):Nat→List Field→Option Nat
 | o,[]=>some o
 | o,f :: r=>if f.offset=o then ZeO P (o+P.cellsOf f.type) r else none
def ZjS (P:Program) (ts:List TypeId):Bool:=ts.all fun t=>match P.underlying t with
 | some .bool=>true
 | some (.int _)=>true
 | some .string=>true
 | some (.slice e)=>ts.contains e&&decide (0<P.cellsOf e)
 | some (.struct fs)=>fs.toList.all (fun f=>ts.contains f.type)&&ZeO P 0 fs.toList==some (P.cellsOf t)
 | _=>false
theorem ZaX {w:World} {S:Nat→Prop} {d:D} {v:Value} (h1:d.one=true) (h:ZA w S d [v]):Qg w S [d] [v]:=by
 simp only[Qg];exact⟨v,[],rfl,h1,h,rfl⟩
theorem ZaY {w:World} {S:Nat→Prop} {ds:List D} {vs:List Value} (h:Qg w S ds vs):ZA w S (mkD ds) vs:=by
 match ds,h with
 | [],h=>simpa [mkD,ZA] using h
 | [d],h=>
  simp only[Qg] at h;obtain⟨v,r,rfl,h1,h2,rfl⟩:=h;exact h2
 | d :: e :: r,h=>simpa [mkD,ZA] using h
theorem cells?_len {w:World} {base:Nat} {a:Addr} {n:Nat} {cs:List Value} (h:w.cells? base a n=some cs):cs.length=n∧∀ i,i<n→w.cell? (a.add i)=cs[i]?:=by
 unfold World.cells? at h;split at h
 ·refine⟨by simpa using mapM_some_length h,fun i hi=>?_⟩;have:=mapM_some_get h i i (by simp[hi]);exact this
 ·cases h
theorem Zgk {H:Type} {enc:TypeId×Value→H} {P:Program} {W:World} {sp:Nat→Bool} {ts:List TypeId} (hT:ZjS P ts=true):∀ (n:Nat) (t:TypeId) (cs:List Value) (x:DataW H×List MemPlace),t∈ts →
  DataW.trod enc P W 0 sp true n t cs=some x→∃ ds,TyD P n t ds∧Qg W (fun b=>b<W.heap.size) ds cs
 | 0,t,cs,x,_,h=>by simp[DataW.trod] at h
 | n+1,t,cs,x,ht,h=>by
  have hk:=Kx.1 hT t ht;cases hu:P.underlying t with
  | none=>rw[hu] at hk;cases hk
  | some k=>
   rw[hu] at hk;cases k with
   | bool=>
    unfold DataW.trod at h;rw[hu] at h;split at h<;>simp_all
    rename_i b;exact⟨[.bool b],by simp[TyD,hu],ZaX rfl rfl⟩
   | int k=>
    obtain⟨z,rfl,_,hw⟩:=DataW.trod_int hu h;exact⟨[.int k z],by simp[TyD,hu,hw],ZaX rfl rfl⟩
   | string=>
    obtain⟨s,rfl,_,hw⟩:=DataW.trod_string hu h;refine⟨[.str s.data.toList],?_,ZaX rfl ⟨s,rfl,rfl⟩⟩;simp only[TyD,hu];exact⟨_,rfl,by simpa using hw⟩
   | slice e=>
    simp only[Kb,List.contains_iff_mem,Kj] at hk;rcases DataW.trod_slice hu h with ⟨rfl,_⟩ | ⟨a,len,ap,ak,aq,m,hm,rfl,_,_,ar,a4,a5,ah,_,_⟩
    ·refine⟨[.sl []],?_,ZaX rfl ⟨none,0,rfl,Kf _,.inl rfl⟩⟩;simp only[TyD,hu];exact⟨[],rfl,by simp,by simp⟩
    ·cases hm;have ae:∀ i,i<len→∃ es ab,TyD P n e es∧Qg W (fun b=>b<W.heap.size) es ab∧W.cells? 0 (a.add (i*P.cellsOf e)) (P.cellsOf e)=some ab:=by
      intro i hi;have h1:=ah i hi;rw[Km (by omega),Option.bind_eq_some_iff] at h1;obtain⟨ab,h2,h3⟩:=h1;obtain⟨es,h4,h5⟩:=Zgk hT n e ab _ hk.1 h3;exact⟨es,ab,h4,h5,h2⟩
     obtain⟨f,hf⟩:∃ f:Nat→List D,∀ i,i<len→∃ ab,TyD P n e (f i)∧Qg W (fun b=>b<W.heap.size) (f i) ab∧W.cells? 0 (a.add (i*P.cellsOf e)) (P.cellsOf e)=some ab:=by
      refine⟨fun i=>if h:i<len then Classical.choose (ae i h) else [],fun i hi=>?_⟩;simp only[dif_pos hi];exact Classical.choose_spec (ae i hi)
     have ad:((List.range len).map fun i=>mkD (f i)).length=len:=by simp
     refine⟨[.sl ((List.range len).map fun i=>mkD (f i))],?_,ZaX rfl ⟨some a,ap,by rw[ad],by rw[ad];exact ar,?_⟩⟩
     ·simp only[TyD,hu];refine⟨_,rfl,by rw[ad];omega,fun x hx=>?_⟩;obtain⟨i,hi,rfl⟩:=K7.1 hx;obtain⟨_,h1,_⟩:=hf i (by simpa using hi);exact⟨_,rfl,h1⟩
     ·by_cases h0:len=0
      ·left;rw[h0];rfl
      ·right
       obtain⟨b,off,ai⟩:=a;obtain⟨au,_,_,av⟩:=hf 0 (by omega);obtain⟨a6,aw⟩:=cells?_len av;have aa:=aw 0 hk.2;have aj:∃ v,au[0]?=some v:=⟨_,Km (by omega)⟩
       obtain⟨v,hv⟩:=aj;rw[hv] at aa;have af:ai=none:=by simpa [Addr.add] using World.cell?_spot aa
       subst af;have hb:b<W.heap.size:=by
        rcases KK b W.heap.size with h | h
        ·exact h
        ·exfalso
         have:W.heap[b]?=none:=by simp[h]
         simp[World.cell?,Addr.add,this] at aa
       refine⟨b,off,P.cellsOf e,rfl,hb,hk.2,?_⟩;rw[Q8];intro i x hx;have al:i<len:=by
        have:=(Kc.1 hx).1;simpa using this
       rw[Lh,List.getElem?_range al] at hx;cases hx;obtain⟨ab,_,h2,h3⟩:=hf i al;obtain⟨g1,g2⟩:=cells?_len h3;refine⟨ab,g1,fun j u am=>?_,ZaY h2⟩;have hj:j<P.cellsOf e:=by
        have:=(Kc.1 am).1;omega
       have:=g2 j hj;rw[am,Addr.add_lit,Addr.add_lit] at this;exact this
   | struct fs=>
    simp only[Kb,Kx,List.contains_iff_mem,beq_iff_eq] at hk;obtain⟨ax,ay⟩:=hk;obtain⟨xs,m,hm,_,a7,az,hf⟩:=DataW.trod_struct hu h;cases hm;have a0:∀ (l:List Field) (i o:Nat),fs.toList.drop i=l→ZeO P o l=some (P.cellsOf t)→o≤cs.length →
      ∃ ds,(l.foldr (fun f K ds=>∃ p q,ds=p++q∧TyD P n f.type p∧K q) (fun ds=>ds=[])) ds∧Qg W (fun b=>b<W.heap.size) ds (cs.drop o):=by
     intro l
     induction l with
     | nil=>
      intro i o _ ho _;simp only[ZeO,Option.some.injEq] at ho;refine⟨[],rfl,?_⟩;rw[List.drop_of_length_le (by omega)];rfl
     | cons f r ih=>
      intro i o hd ho a8;simp only[ZeO] at ho;split at ho
      ·rename_i a1;have hi:fs.toList[i]?=some f:=by
        have:=congrArg (fun l=>l[0]?) hd;simpa using this
       have a2:i<xs.length:=by
        have:=(Kc.1 hi).1;rw[az];simpa using this
       have h1:=hf i f (by simpa using hi);rw[Km a2] at h1;obtain⟨an,t1,r1⟩:=Zgk hT n f.type _ _ (ax f (Kr hi)) h1;have ag:∀ (l:List Field) (a b:Nat),ZeO P a l=some b→a≤b:=by
        intro l
        induction l with
        | nil=>intro a b h;simp[ZeO] at h;omega
        | cons g l ih2=>
         intro a b h;simp only[ZeO] at h;split at h
         ·have:=ih2 _ _ h;omega
         ·cases h
       have a3:=ag _ _ _ ho;obtain⟨ao,t2,r2⟩:=ih (i+1) (o+P.cellsOf f.type) (by
        have:=congrArg List.tail hd;simpa using this) ho (by omega)
       refine⟨an++ao,⟨an,ao,rfl,t1,t2⟩,?_⟩;have e:cs.drop o=(cs.drop f.offset).take (P.cellsOf f.type)++cs.drop (o+P.cellsOf f.type):=by
        rw[a1,← LQ,K4]
       rw[e];exact Qp.2 ((Qp.1 r1).append (Qp.1 r2))
      ·cases ho
    obtain⟨ds,h1,h2⟩:=a0 fs.toList 0 0 rfl ay (by omega);exact⟨ds,by simp only[TyD,hu];exact h1,by simpa using h2⟩
   | _=>cases hk
end Go.Abs.L
