/- Own text. -/
import Derived.Test.YthgciclhiaoecaaGreatAbsDraw5
import Derived.Test.YthgciclhiaoecaaGreatAbsLib
import Derived.WalkKit
import Derived.ProofKit
import Derived.OpenShut
import Derived.Below
import Derived.Carry
import Derived.ChangeSlices
import Derived.ChangeArms
import Derived.DataReads
import Derived.Test.YthgciclhiaoecaaGreatAbsOkD
set_option linter.unusedVariables false
set_option linter.unusedSimpArgs false
namespace Go.Abs.L
open Go Go.Abs Go.ChangeShapes Go.WideShapes Go.ChangeAt Go.RowKit
theorem law_calls {P:Program} {X:Fns} {M:Zm} (hS:Qi P (Zd X M)) {f:FuncId} (hv:∀ aa:List UInt8,Zd X M f [.d (.sl (aa.map ZzN))] []=some (.d (.bool true),[]))
  {W:World} (hG:ZkO (fun b=>b<W.heap.size) W) {v:Value} {aa:List UInt8} (hr:ZR W (fun b=>b<W.heap.size) (.sl (aa.map ZzN)) [v]) :
  Calls P f #[v] W fun e W'=>e=.returned (.bool true)∧Below W.heap.size W W':=by
 obtain⟨_,hs⟩:=hS _ _ _ _ _ (hv aa);have h:=hs (fun b=>W.heap.size≤b) (fun b=>W.heap.size≤b) (fun b=>b<W.heap.size) (fun _=>none) [v] W
  ⟨⟨Xq.2 hr,trivial⟩,fun id o hl=>(by cases hl),fun i j o o' b hi=>(by cases hi),fun b hb=>hb,fun b hb=>hb,fun b hb=>hb,fun _ _=>rfl,hG⟩
 refine h.mono fun e W' ⟨v',I',Γ',he,hb⟩=>?_;subst he;have ab:=Xq.1 hb.res;have e1:v'=.bool true:=by
  have:[v']=[Value.bool true]:=ab;simpa using this
 subst e1;exact⟨rfl,⟨hb.fr.os,hb.fr.tape,hb.fr.output,hb.fr.size,fun k hk=>hb.fr.block k hk (by omega)⟩⟩
theorem bytes_rep {H:Type} {enc:TypeId×Value→H} {P:Program} {W:World} {t e:TypeId} (ht:P.underlying t=some (.slice e)) (he:P.underlying e=some (.int .u8)) (hc:P.cellsOf e=1) {base:Nat} {v:Value} {d:DataW H} {p:List MemPlace}
  (af:Value.okWide P W .any base t v) (h:DataW.Trod enc P W 0 (fun _=>true) true t v d p):∃ code:List UInt8,ZR W (fun b=>b<W.heap.size) (.sl (code.map ZzN)) [v]:=by
 obtain⟨a1,len,ai,rfl⟩:=okWide_slice ht af;obtain⟨aj,hf⟩:=h;rcases open_ints ht he hc hf with ⟨ab,hx⟩ | ⟨a,ak,al,zs,ab,_,hl,hm,hz,hx,aa,am⟩
 ·simp[Value.cells] at ab;obtain⟨rfl,rfl,rfl⟩:=ab;exact⟨[],none,0,rfl,Kl _,.inl rfl⟩
 ·simp[Value.cells] at ab;obtain⟨rfl,rfl,rfl⟩:=ab;simp only[Km] at hz;refine⟨(zs.take len).map fun n=>UInt8.ofNat n.toNat,?_⟩;have ad:(((zs.take len).map fun n=>UInt8.ofNat n.toNat).map ZzN).length=len:=by simp;omega
  refine⟨some a,ai,by rw[ad],by rw[ad];exact hl,?_⟩;by_cases h0:len=0
  ·left;rw[h0];simp
  ·right
   obtain⟨b,off,ag⟩:=a;have ae:ag=none:=by simpa [Addr.add] using World.cell?_spot (aa 0 (by omega))
   subst ae;have hb:b<W.heap.size:=by
    have h1:=aa 0 (by omega);rcases KY b W.heap.size with h | h
    ·exact h
    ·exfalso
     have:W.heap[b]?=none:=by simp[h]
     simp[World.cell?,Addr.add,this] at h1
   refine⟨b,off,1,rfl,hb,by omega,?_⟩;rw[XW];intro i x hx;simp only[Ld] at hx;cases hi:(zs.take len)[i]? with
   | none=>rw[hi] at hx;cases hx
   | some z=>
    rw[hi] at hx;simp only[Lh,Option.some.injEq] at hx;subst hx;have an:i<len:=by
     have:=(Kc.1 hi).1;simp at this;omega
    have ao:i<zs.length:=by omega
    have ah:zs[i]?=some z:=by
     rw[Lv] at hi;simpa [an] using hi
    have hw:=bounds_u8 (am z (Kb ah));refine⟨[.int .u8 z],rfl,fun j u hu=>?_,?_⟩
    ·have hj:j=0:=by
      have:=(Kc.1 hu).1;simp at this;exact this
     subst hj;simp at hu;subst hu;have:=aa i ao;rw[Addr.add_lit] at this;have e2:zs.getD i 0=z:=by rw[List.getD_eq_getElem?_getD,ah];rfl
     rw[e2] at this;simpa using this
    ·show [Value.int .u8 z]=[.int .u8 (UInt8.ofNat z.toNat).toNat];have:((UInt8.ofNat z.toNat).toNat:Int)=z:=by
      rw[UInt8.toNat_ofNat'];omega
     rw[this]
end Go.Abs.L
set_option linter.unusedVariables false
set_option linter.unusedSimpArgs false
namespace Go.Abs.L
open Go Go.Abs Go.ChangeShapes Go.WideShapes
def mkD:List D→D
 | [d]=>d
 | ds=>.agg ds
def TyD (P:Program):Nat→TypeId→List D→Prop
 | 0,_,_=>False
 | n+1,t,ds=>match P.underlying t with
  | some .bool=>∃ b,ds=[.bool b]
  | some (.int k)=>∃ z,ds=[.int k z]∧(Lit.int k z).wf=true
  | some .string=>∃ s:List UInt8,ds=[.str s]∧s.length≤maxLen
  | some (.slice e)=>∃ xs:List D,ds=[.sl xs]∧xs.length≤maxLen∧∀ x∈xs,∃ es,x=mkD es∧TyD P n e es
  | some (.struct fs)=>(fs.toList.foldr (fun f K ds=>∃ p q,ds=p++q∧TyD P n f.type p∧K q) (fun ds=>ds=[])) ds
  | _=>False
def Zom (P:Program):Nat→List Field→Option Nat
 | o,[]=>some o
 | o,f :: r=>if f.offset=o then Zom P (o+P.cellsOf f.type) r else none
def ZqB (P:Program) (ts:List TypeId):Bool:=ts.all fun t=>match P.underlying t with
 | some .bool=>true
 | some (.int _)=>true
 | some .string=>true
 | some (.slice e)=>ts.contains e&&decide (0<P.cellsOf e)
 | some (.struct fs)=>fs.toList.all (fun f=>ts.contains f.type)&&Zom P 0 fs.toList==some (P.cellsOf t)
 | _=>false
theorem ZhI {w:World} {S:Nat→Prop} {d:D} {v:Value} (h1:d.one=true) (h:ZR w S d [v]):QH w S [d] [v]:=by
 simp only[QH];exact⟨v,[],rfl,h1,h,rfl⟩
theorem ZhJ {w:World} {S:Nat→Prop} {ds:List D} {vs:List Value} (h:QH w S ds vs):ZR w S (mkD ds) vs:=by
 match ds,h with
 | [],h=>simpa [mkD,ZR] using h
 | [d],h=>
  simp only[QH] at h;obtain⟨v,r,rfl,h1,h2,rfl⟩:=h;exact h2
 | d :: e :: r,h=>simpa [mkD,ZR] using h
theorem cells?_len {w:World} {base:Nat} {a:Addr} {n:Nat} {cs:List Value} (h:w.cells? base a n=some cs):cs.length=n∧∀ i,i<n→w.cell? (a.add i)=cs[i]?:=by
 unfold World.cells? at h;split at h
 ·refine⟨by simpa using mapM_some_length h,fun i hi=>?_⟩;have:=mapM_some_get h i i (by simp[hi]);exact this
 ·cases h
theorem ZqC {H:Type} {enc:TypeId×Value→H} {P:Program} {W:World} {sp:Nat→Bool} {ts:List TypeId} (hT:ZqB P ts=true):∀ (n:Nat) (t:TypeId) (cs:List Value) (x:DataW H×List MemPlace),t∈ts →
  DataW.trod enc P W 0 sp true n t cs=some x→∃ ds,TyD P n t ds∧QH W (fun b=>b<W.heap.size) ds cs
 | 0,t,cs,x,_,h=>by simp[DataW.trod] at h
 | n+1,t,cs,x,ht,h=>by
  have hk:=KG.1 hT t ht;cases hu:P.underlying t with
  | none=>rw[hu] at hk;cases hk
  | some k=>
   rw[hu] at hk;cases k with
   | bool=>
    unfold DataW.trod at h;rw[hu] at h;split at h<;>simp_all
    rename_i b;exact⟨[.bool b],by simp[TyD,hu],ZhI rfl rfl⟩
   | int k=>
    obtain⟨z,rfl,_,hw⟩:=DataW.trod_int hu h;exact⟨[.int k z],by simp[TyD,hu,hw],ZhI rfl rfl⟩
   | string=>
    obtain⟨s,rfl,_,hw⟩:=DataW.trod_string hu h;refine⟨[.str s.data.toList],?_,ZhI rfl ⟨s,rfl,rfl⟩⟩;simp only[TyD,hu];exact⟨_,rfl,by simpa using hw⟩
   | slice e=>
    simp only[Kd,List.contains_iff_mem,Kt] at hk;rcases DataW.trod_slice hu h with ⟨rfl,_⟩ | ⟨a,len,ap,ak,aq,m,hm,rfl,_,_,ar,a4,a5,ah,_,_⟩
    ·refine⟨[.sl []],?_,ZhI rfl ⟨none,0,rfl,Kl _,.inl rfl⟩⟩;simp only[TyD,hu];exact⟨[],rfl,by simp,by simp⟩
    ·cases hm;have ae:∀ i,i<len→∃ es ab,TyD P n e es∧QH W (fun b=>b<W.heap.size) es ab∧W.cells? 0 (a.add (i*P.cellsOf e)) (P.cellsOf e)=some ab:=by
      intro i hi;have h1:=ah i hi;rw[Kw (by omega),Option.bind_eq_some_iff] at h1;obtain⟨ab,h2,h3⟩:=h1;obtain⟨es,h4,h5⟩:=ZqC hT n e ab _ hk.1 h3;exact⟨es,ab,h4,h5,h2⟩
     obtain⟨f,hf⟩:∃ f:Nat→List D,∀ i,i<len→∃ ab,TyD P n e (f i)∧QH W (fun b=>b<W.heap.size) (f i) ab∧W.cells? 0 (a.add (i*P.cellsOf e)) (P.cellsOf e)=some ab:=by
      refine⟨fun i=>if h:i<len then Classical.choose (ae i h) else [],fun i hi=>?_⟩;simp only[dif_pos hi];exact Classical.choose_spec (ae i hi)
     have ad:((List.range len).map fun i=>mkD (f i)).length=len:=by simp
     refine⟨[.sl ((List.range len).map fun i=>mkD (f i))],?_,ZhI rfl ⟨some a,ap,by rw[ad],by rw[ad];exact ar,?_⟩⟩
     ·simp only[TyD,hu];refine⟨_,rfl,by rw[ad];omega,fun x hx=>?_⟩;obtain⟨i,hi,rfl⟩:=Li.1 hx;obtain⟨_,h1,_⟩:=hf i (by simpa using hi);exact⟨_,rfl,h1⟩
     ·by_cases h0:len=0
      ·left;rw[h0];rfl
      ·right
       obtain⟨b,off,ai⟩:=a;obtain⟨au,_,_,av⟩:=hf 0 (by omega);obtain⟨a6,aw⟩:=cells?_len av;have aa:=aw 0 hk.2;have aj:∃ v,au[0]?=some v:=⟨_,Kw (by omega)⟩
       obtain⟨v,hv⟩:=aj;rw[hv] at aa;have af:ai=none:=by simpa [Addr.add] using World.cell?_spot aa
       subst af;have hb:b<W.heap.size:=by
        rcases KY b W.heap.size with h | h
        ·exact h
        ·exfalso
         have:W.heap[b]?=none:=by simp[h]
         simp[World.cell?,Addr.add,this] at aa
       refine⟨b,off,P.cellsOf e,rfl,hb,hk.2,?_⟩;rw[XW];intro i x hx;have al:i<len:=by
        have:=(Kc.1 hx).1;simpa using this
       rw[Ld,List.getElem?_range al] at hx;cases hx;obtain⟨ab,_,h2,h3⟩:=hf i al;obtain⟨g1,g2⟩:=cells?_len h3;refine⟨ab,g1,fun j u am=>?_,ZhJ h2⟩;have hj:j<P.cellsOf e:=by
        have:=(Kc.1 am).1;omega
       have:=g2 j hj;rw[am,Addr.add_lit,Addr.add_lit] at this;exact this
   | struct fs=>
    simp only[Kd,KG,List.contains_iff_mem,beq_iff_eq] at hk;obtain⟨ax,ay⟩:=hk;obtain⟨xs,m,hm,_,a7,az,hf⟩:=DataW.trod_struct hu h;cases hm;have a0:∀ (l:List Field) (i o:Nat),fs.toList.drop i=l→Zom P o l=some (P.cellsOf t)→o≤cs.length →
      ∃ ds,(l.foldr (fun f K ds=>∃ p q,ds=p++q∧TyD P n f.type p∧K q) (fun ds=>ds=[])) ds∧QH W (fun b=>b<W.heap.size) ds (cs.drop o):=by
     intro l
     induction l with
     | nil=>
      intro i o _ ho _;simp only[Zom,Option.some.injEq] at ho;refine⟨[],rfl,?_⟩;rw[List.drop_of_length_le (by omega)];rfl
     | cons f r ih=>
      intro i o hd ho a8;simp only[Zom] at ho;split at ho
      ·rename_i a1;have hi:fs.toList[i]?=some f:=by
        have:=congrArg (fun l=>l[0]?) hd;simpa using this
       have a2:i<xs.length:=by
        have:=(Kc.1 hi).1;rw[az];simpa using this
       have h1:=hf i f (by simpa using hi);rw[Kw a2] at h1;obtain⟨an,t1,r1⟩:=ZqC hT n f.type _ _ (ax f (Kb hi)) h1;have ag:∀ (l:List Field) (a b:Nat),Zom P a l=some b→a≤b:=by
        intro l
        induction l with
        | nil=>intro a b h;simp[Zom] at h;omega
        | cons g l ih2=>
         intro a b h;simp only[Zom] at h;split at h
         ·have:=ih2 _ _ h;omega
         ·cases h
       have a3:=ag _ _ _ ho;obtain⟨ao,t2,r2⟩:=ih (i+1) (o+P.cellsOf f.type) (by
        have:=congrArg List.tail hd;simpa using this) ho (by omega)
       refine⟨an++ao,⟨an,ao,rfl,t1,t2⟩,?_⟩;have e:cs.drop o=(cs.drop f.offset).take (P.cellsOf f.type)++cs.drop (o+P.cellsOf f.type):=by
        rw[a1,← KaA,Lr]
       rw[e];exact QQ.2 ((QQ.1 r1).append (QQ.1 r2))
      ·cases ho
    obtain⟨ds,h1,h2⟩:=a0 fs.toList 0 0 rfl ay (by omega);exact⟨ds,by simp only[TyD,hu];exact h1,by simpa using h2⟩
   | _=>cases hk
end Go.Abs.L
set_option linter.unusedVariables false
set_option linter.unusedSimpArgs false
namespace Go.Abs.L
open Go Go.Abs Go.ChangeShapes Go.WideShapes Go.RowKit
def Zkz (P:Program) (t:TypeId) (es:List D):D:=match P.underlying t with
 | some (.struct _)=>.agg es
 | _=>mkD es
def ZkA (P:Program):List TypeId→List D→Prop
 | [],[]=>True
 | t :: ts,x :: xs=>(∃ n es,x=Zkz P t es∧TyD P n t es)∧ZkA P ts xs
 | _,_=>False
theorem ZhK {P:Program} {t:TypeId} {ts:List TypeId}:∀ {xs:List D},ZkA P (t :: ts) xs→∃ n es ys,xs=Zkz P t es :: ys∧TyD P n t es∧ZkA P ts ys
 | [],h=>h.elim
 | x :: xs,⟨⟨n,es,h1,h2⟩,h3⟩=>⟨n,es,xs,by rw[h1],h2,h3⟩
theorem ZqD {P:Program}:∀ {xs:List D},ZkA P [] xs→xs=[]
 | [],_=>rfl
 | _ :: _,h=>h.elim
theorem ZCh {H:Type} {enc:TypeId×Value→H} {P:Program} {W:World} {sp:Nat→Bool} {ts:List TypeId} (hT:ZqB P ts=true) {base:Nat} {t:TypeId} {v:Value} {d:DataW H} {p:List MemPlace} (ht:t∈ts)
  (aa:Value.okWide P W .any base t v) (h:DataW.Trod enc P W 0 sp true t v d p):∃ n es,TyD P n t es∧Xf W (fun b=>b<W.heap.size) (Zkz P t es) v:=by
 obtain⟨n,hn⟩:=h;obtain⟨es,h1,h2⟩:=ZqC hT n t _ _ ht hn;refine⟨n,es,h1,?_⟩;have hk:=KG.1 hT t ht;cases n with
 | zero=>exact h1.elim
 | succ n=>
  cases hu:P.underlying t with
  | none=>rw[hu] at hk;cases hk
  | some k=>
   rw[hu] at hk;simp only[TyD,hu] at h1;cases k with
   | struct fs=>
    simp only[Zkz,hu,Xf];simp only[Value.okWide,hu] at aa;obtain⟨cs,rfl,_⟩:=aa;exact⟨cs,rfl,by simpa [Value.cells] using h2⟩
   | bool=>
    obtain⟨b,rfl⟩:=okWide_bool hu aa;obtain⟨b',rfl⟩:=h1;simp only[Zkz,hu,mkD,Xf];have:=ZhJ h2;simpa [Value.cells,mkD] using this
   | int k=>
    obtain⟨b,rfl⟩:=okWide_int hu aa;obtain⟨b',rfl,_⟩:=h1;simp only[Zkz,hu,mkD,Xf];have:=ZhJ h2;simpa [Value.cells,mkD] using this
   | string=>
    obtain⟨b,rfl⟩:=okWide_string hu aa;obtain⟨b',rfl,_⟩:=h1;simp only[Zkz,hu,mkD,Xf];have:=ZhJ h2;simpa [Value.cells,mkD] using this
   | slice e=>
    obtain⟨a,l,c,rfl⟩:=okWide_slice hu aa;obtain⟨b',rfl,_⟩:=h1;simp only[Zkz,hu,mkD,Xf];have:=ZhJ h2;simpa [Value.cells,mkD] using this
   | _=>cases hk
theorem ZqE {H:Type} {enc:TypeId×Value→H} {P:Program} {W:World} {sp:Nat→Bool} {T:List TypeId} (hT:ZqB P T=true) {base:Nat}:∀ {ts:List TypeId} {vs:List Value} {ds:List (DataW H)} {p:List MemPlace},
  (∀ t∈ts,t∈T)→(∀ (j:Nat) t v,ts[j]?=some t→vs[j]?=some v→Value.okWide P W .any base t v)→DataW.TrodAll enc P W 0 sp true ts vs ds p →
  ∃ xs,ZkA P ts xs∧Zx (Xf W (fun b=>b<W.heap.size)) xs vs
 | [],[],[],p,_,_,_=>⟨[],trivial,trivial⟩
 | t :: ts,v :: vs,d :: ds,p,hm,hval,h=>by
  obtain⟨q,r,h1,h2,_⟩:=h;obtain⟨n,es,g1,g2⟩:=ZCh hT (hm t (by simp)) (hval 0 t v rfl rfl) h1;obtain⟨xs,g3,g4⟩:=ZqE hT (ts:=ts) (vs:=vs) (fun t ht=>hm t (by simp[ht])) (fun j t v ht hv=>hval (j+1) t v (by simpa using ht) (by simpa using hv)) h2;exact⟨_ :: xs,⟨⟨n,es,rfl,g1⟩,g3⟩,g2,g4⟩
 | [],_ :: _,_,_,_,_,h=>h.elim
 | [],[],_ :: _,_,_,_,h=>h.elim
 | _ :: _,[],_,_,_,_,h=>h.elim
 | _ :: _,_ :: _,[],_,_,_,h=>h.elim
theorem ZqF {P:Program} {X:Fns} {M:Zm} (hS:Qi P (Zd X M)) {f:FuncId} {xs:List D} (hv:Zd X M f (xs.map .d) []=some (.d (.bool true),[]))
  {W:World} (hG:ZkO (fun b=>b<W.heap.size) W) {vs:Array Value} (hr:Zx (Xf W (fun b=>b<W.heap.size)) xs vs.toList) :
  Calls P f vs W fun e W'=>e=.returned (.bool true)∧Below W.heap.size W W':=by
 obtain⟨_,hs⟩:=hS _ _ _ _ _ hv;have h:=hs (fun b=>W.heap.size≤b) (fun b=>W.heap.size≤b) (fun b=>b<W.heap.size) (fun _=>none) vs.toList W
  ⟨Zx.map_left (f:=AV.d) (fun a b ab=>Xq.2 ab) hr,fun id o hl=>(by cases hl),fun i j o o' b hi=>(by cases hi),fun b hb=>hb,fun b hb=>hb,fun b hb=>hb,fun _ _=>rfl,hG⟩
 rw[show vs.toList.toArray=vs by simp] at h;refine h.mono fun e W' ⟨v',I',Γ',he,hb⟩=>?_;subst he;have aa:=Xq.1 hb.res;have e1:v'=.bool true:=by
  have:[v']=[Value.bool true]:=aa;simpa using this
 subst e1;exact⟨rfl,⟨hb.fr.os,hb.fr.tape,hb.fr.output,hb.fr.size,fun k hk=>hb.fr.block k hk (by omega)⟩⟩
theorem Zd3 {H:Type} {enc:TypeId×Value→H} {P:Program} (hl:laidOutB P=true) {W W' : World} (hn:Below W.heap.size W W'):∀ {ts:List TypeId} {vs:List Value} {ds:List (DataW H)} {p:List MemPlace},
  (∀ t∈ts,P.readableRec t=true∧t<P.types.size)→(∀ x∈p,x.block<W.heap.size)→DataW.TrodAll enc P W 0 (fun _=>true) true ts vs ds p→DataW.TrodAll enc P W' 0 (fun b=>decide (b<W.heap.size)) true ts vs ds p
 | [],[],[],p,_,_,h=>h
 | t :: ts,v :: vs,d :: ds,p,hm,hlt,h=>by
  obtain⟨q,r,h1,h2,rfl⟩:=h;exact⟨q,r,Below.trod hl (hm t (by simp)).1 (hm t (by simp)).2 h1 hn (fun x hx=>hlt x (by simp[hx])),Zd3 hl hn (fun t ht=>hm t (by simp[ht])) (fun x hx=>hlt x (by simp[hx])) h2,rfl⟩
 | [],_ :: _,_,_,_,_,h=>h.elim
 | [],[],_ :: _,_,_,_,h=>h.elim
 | _ :: _,[],_,_,_,_,h=>h.elim
 | _ :: _,_ :: _,[],_,_,_,h=>h.elim
def Z7 (P:Program) (t:TypeId) (tys:List TypeId):Prop:=∃ fs,P.underlying t=some (.struct fs)∧fs.toList.map (·.type)=tys
def TyL (P:Program) (n:Nat):List TypeId→List D→Prop
 | [],ds=>ds=[]
 | t :: r,ds=>∃ p q,ds=p++q∧TyD P n t p∧TyL P n r q
theorem Ws {P:Program} {n:Nat} {t:TypeId} {aa:List TypeId} {ds:List D} (h:Z7 P t aa) (hd:TyD P (n+1) t ds):TyL P n aa ds:=by
 obtain⟨fs,h1,rfl⟩:=h;simp only[TyD,h1] at hd;revert ds
 induction fs.toList with
 | nil=>intro ds hd;exact hd
 | cons f r ih=>
  intro ds hd;obtain⟨p,q,e,h2,h3⟩:=hd;exact⟨p,q,e,h2,ih h3⟩
def Zew (P:Program) {α:Type} (t:TypeId) (enc:α→D) (ok:α→Prop):Prop:=∀ n ds,TyD P n t ds→∃ a,ok a∧ds=(enc a).cells∧Zkz P t ds=enc a∧mkD ds=enc a
theorem Qv {P:Program} {t:TypeId} (h:P.underlying t=some (.int .i64)):Zew P t ZcM I64:=by
 intro n ds hd;cases n with
 | zero=>exact hd.elim
 | succ n=>
  simp only[TyD,h] at hd;obtain⟨z,rfl,hw⟩:=hd;refine⟨z,?_,rfl,by simp only[Zkz,h];rfl,rfl⟩;simp[Lit.wf,IntKind.min,IntKind.max,IntKind.signed,IntKind.bits] at hw;unfold I64;omega
theorem ZkB {P:Program} {t:TypeId} (h:P.underlying t=some .bool):Zew P t D.bool (fun _=>True):=by
 intro n ds hd;cases n with
 | zero=>exact hd.elim
 | succ n=>
  simp only[TyD,h] at hd;obtain⟨z,rfl⟩:=hd;exact⟨z,trivial,rfl,by simp only[Zkz,h];rfl,rfl⟩
theorem reads_str {P:Program} {t:TypeId} (h:P.underlying t=some .string):Zew P t D.str (fun s=>s.length≤maxLen):=by
 intro n ds hd;cases n with
 | zero=>exact hd.elim
 | succ n=>
  simp only[TyD,h] at hd;obtain⟨z,rfl,hz⟩:=hd;exact⟨z,hz,rfl,by simp only[Zkz,h];rfl,rfl⟩
theorem ZhL {P:Program} {α:Type} {t e:TypeId} {enc:α→D} {ok:α→Prop} (h:P.underlying t=some (.slice e)) (he:Zew P e enc ok):Zew P t (fun l:List α=>.sl (l.map enc)) (fun l=>l.length≤maxLen∧∀ x∈l,ok x):=by
 intro n ds hd;cases n with
 | zero=>exact hd.elim
 | succ n=>
  simp only[TyD,h] at hd;obtain⟨xs,rfl,hl,hx⟩:=hd;have:∃ l:List α,xs=l.map enc∧∀ x∈l,ok x:=by
   clear hl
   induction xs with
   | nil=>exact⟨[],rfl,by simp⟩
   | cons x xs ih=>
    obtain⟨l,h1,h2⟩:=ih fun y hy=>hx y (by simp[hy]);obtain⟨es,h3,h4⟩:=hx x (by simp);obtain⟨a,g1,_,_,g4⟩:=he n es h4;refine⟨a :: l,by rw[h3,g4,h1];rfl,fun y hy=>?_⟩;rcases Kf.1 hy with rfl | hy
    ·exact g1
    ·exact h2 y hy
  obtain⟨l,rfl,h2⟩:=this;exact⟨l,⟨by simpa using hl,h2⟩,rfl,by simp only[Zkz,h];rfl,rfl⟩
section
variable {P:Program} {i b:TypeId} (hi:P.underlying i=some (.int .i64)) (hb:P.underlying b=some .bool)
include hi
omit hi in
theorem Vf {t:TypeId} {aa:List TypeId} (h:Z7 P t aa) (ds:List D):Zkz P t ds=.agg ds:=by
 obtain⟨fs,h1,_⟩:=h;simp only[Zkz,h1]
theorem Ztd {t:TypeId} (h:Z7 P t [i,i,i,i]):Zew P t Box.enc Box.ok:=by
 intro n ds hd;cases n with
 | zero=>exact hd.elim
 | succ n=>
  obtain⟨_,_,rfl,h1,_,_,rfl,h2,_,_,rfl,h3,_,_,rfl,h4,rfl⟩:=Ws h hd;obtain⟨a1,g1,rfl,_⟩:=Qv hi n _ h1;obtain⟨a2,g2,rfl,_⟩:=Qv hi n _ h2;obtain⟨a3,g3,rfl,_⟩:=Qv hi n _ h3;obtain⟨a4,g4,rfl,_⟩:=Qv hi n _ h4;exact⟨⟨a1,a2,a3,a4⟩,⟨g1,g2,g3,g4⟩,rfl,Vf h _,rfl⟩
include hb
theorem ZqG {t:TypeId} (h:Z7 P t [i,i,b,i]):Zew P t Pane.enc Pane.ok:=by
 intro n ds hd;cases n with
 | zero=>exact hd.elim
 | succ n=>
  obtain⟨_,_,rfl,h1,_,_,rfl,h2,_,_,rfl,h3,_,_,rfl,h4,rfl⟩:=Ws h hd;obtain⟨a1,g1,rfl,_⟩:=Qv hi n _ h1;obtain⟨a2,g2,rfl,_⟩:=Qv hi n _ h2;obtain⟨a3,_,rfl,_⟩:=ZkB hb n _ h3;obtain⟨a4,g4,rfl,_⟩:=Qv hi n _ h4;exact⟨⟨a1,a2,a3,a4⟩,⟨g1,g2,g4⟩,rfl,Vf h _,rfl⟩
theorem ZqH {t p:TypeId} (hp:Z7 P p [i,i,b,i]) (h:Z7 P t [p,i]):Zew P t Zc.enc Zc.ok:=by
 intro n ds hd;cases n with
 | zero=>exact hd.elim
 | succ n=>
  obtain⟨_,_,rfl,h1,_,_,rfl,h2,rfl⟩:=Ws h hd;obtain⟨a1,g1,rfl,_⟩:=ZqG hi hb hp n _ h1;obtain⟨a2,g2,rfl,_⟩:=Qv hi n _ h2;exact⟨⟨a1,a2⟩,⟨g1,g2⟩,rfl,Vf h _,rfl⟩
theorem ZDp {t s p:TypeId} (hp:Z7 P p [i,i,b,i]) (hs:P.underlying s=some (.slice p)) (h:Z7 P t [i,i,s]):Zew P t Zt.enc Zt.ok:=by
 intro n ds hd;cases n with
 | zero=>exact hd.elim
 | succ n=>
  obtain⟨_,_,rfl,h1,_,_,rfl,h2,_,_,rfl,h3,rfl⟩:=Ws h hd;obtain⟨a1,g1,rfl,_⟩:=Qv hi n _ h1;obtain⟨a2,g2,rfl,_⟩:=Qv hi n _ h2;obtain⟨a3,⟨g3,g4⟩,rfl,_⟩:=ZhL hs (ZqG hi hb hp) n _ h3;exact⟨⟨a1,a2,a3⟩,⟨g1,g2,g3,g4⟩,rfl,Vf h _,rfl⟩
theorem ZCY {t x:TypeId} (hx:Z7 P x [i,i,i,i]) (h:Z7 P t [i,b,x]):Zew P t Place.enc Place.ok:=by
 intro n ds hd;cases n with
 | zero=>exact hd.elim
 | succ n=>
  obtain⟨_,_,rfl,h1,_,_,rfl,h2,_,_,rfl,h3,rfl⟩:=Ws h hd;obtain⟨a1,g1,rfl,_⟩:=Qv hi n _ h1;obtain⟨a2,_,rfl,_⟩:=ZkB hb n _ h2;obtain⟨a3,g3,rfl,_⟩:=Ztd hi hx n _ h3;exact⟨⟨a1,a2,a3⟩,⟨g1,g3⟩,rfl,Vf h _,rfl⟩
omit hb in
theorem ZvQ {t s x:TypeId} (hx:Z7 P x [i,i,i,i]) (hs:P.underlying s=some (.slice x)) (h:Z7 P t [i,i,i,s]):Zew P t Zb.enc Zb.ok:=by
 intro n ds hd;cases n with
 | zero=>exact hd.elim
 | succ n=>
  obtain⟨_,_,rfl,h1,_,_,rfl,h2,_,_,rfl,h3,_,_,rfl,h4,rfl⟩:=Ws h hd;obtain⟨a1,g1,rfl,_⟩:=Qv hi n _ h1;obtain⟨a2,g2,rfl,_⟩:=Qv hi n _ h2;obtain⟨a3,g3,rfl,_⟩:=Qv hi n _ h3;obtain⟨a4,⟨g4,g5⟩,rfl,_⟩:=ZhL hs (Ztd hi hx) n _ h4;exact⟨⟨a1,a2,a3,a4⟩,⟨g1,g2,g3,g4,g5⟩,rfl,Vf h _,rfl⟩
theorem ZqI {t q qs l ls x xs p:TypeId} (hx:Z7 P x [i,i,i,i]) (ab:P.underlying xs=some (.slice x)) (hq:Z7 P q [i,i,i,xs]) (ad:P.underlying qs=some (.slice q))
  (hp:Z7 P p [i,i,b,i]) (hl:Z7 P l [p,i]) (aa:P.underlying ls=some (.slice l)) (h:Z7 P t [qs,ls,ls,i,i]):Zew P t Zq.enc Zq.ok:=by
 intro n ds hd;cases n with
 | zero=>exact hd.elim
 | succ n=>
  obtain⟨_,_,rfl,h1,_,_,rfl,h2,_,_,rfl,h3,_,_,rfl,h4,_,_,rfl,h5,rfl⟩:=Ws h hd;obtain⟨a1,g1,rfl,_⟩:=ZhL ad (ZvQ hi hx ab hq) n _ h1;obtain⟨a2,g2,rfl,_⟩:=ZhL aa (ZqH hi hb hp hl) n _ h2;obtain⟨a3,g3,rfl,_⟩:=ZhL aa (ZqH hi hb hp hl) n _ h3;obtain⟨a4,g4,rfl,_⟩:=Qv hi n _ h4;obtain⟨a5,g5,rfl,_⟩:=Qv hi n _ h5;exact⟨⟨a1,a2,a3,a4,a5⟩,⟨g1,g2,g3,g4,g5⟩,rfl,Vf h _,rfl⟩
theorem ZDq {t s:TypeId} (hs:P.underlying s=some (.slice t)) (h:Z7 P t [i,i,i,b,s]):Zew P t Ze.enc Ze.ok:=by
 intro n
 induction n using Nat.strongRecOn with
 | _ n ih=>
  intro ds hd;cases n with
  | zero=>exact hd.elim
  | succ n=>
   obtain⟨_,_,rfl,h1,_,_,rfl,h2,_,_,rfl,h3,_,_,rfl,h4,_,_,rfl,h5,rfl⟩:=Ws h hd;obtain⟨a1,g1,rfl,_⟩:=Qv hi n _ h1;obtain⟨a2,g2,rfl,_⟩:=Qv hi n _ h2;obtain⟨a3,g3,rfl,_⟩:=Qv hi n _ h3;obtain⟨a4,_,rfl,_⟩:=ZkB hb n _ h4;cases n with
   | zero=>exact h5.elim
   | succ n=>
    simp only[TyD,hs] at h5;obtain⟨xs,rfl,hl,hx⟩:=h5;have:∃ l:List Ze,xs=l.map Ze.enc∧∀ x∈l,Ze.ok x:=by
     clear hl hd
     induction xs with
     | nil=>exact⟨[],rfl,by simp⟩
     | cons x xs ih2=>
      obtain⟨l,k1,k2⟩:=ih2 fun y hy=>hx y (by simp[hy]);obtain⟨es,k3,k4⟩:=hx x (by simp);obtain⟨a,g1,_,_,g4⟩:=ih n (by omega) es k4;refine⟨a :: l,by rw[k3,g4,k1];rfl,fun y hy=>?_⟩;rcases Kf.1 hy with rfl | hy
      ·exact g1
      ·exact k2 y hy
    obtain⟨l,rfl,k2⟩:=this;refine⟨.mk a1 a2 a3 a4 l,.mk g1 g2 g3 (by simpa using hl) k2,by rw[Ze.enc_mk];rfl,?_,by rw[Ze.enc_mk];rfl⟩;rw[Vf h,Ze.enc_mk];rfl
end
end Go.Abs.L
