/- Own text. -/
import Derived.Test.YtfnegoimdljanaaGreatDoorAbsDraw5
import Derived.Test.YtfnegoimdljanaaGreatDoorAbsLib
import Derived.WalkKit
import Derived.ProofKit
import Derived.OpenShut
import Derived.Below
import Derived.Carry
import Derived.ChangeSlices
import Derived.ChangeArms
import Derived.DataReads
import Derived.Test.YtfnegoimdljanaaGreatDoorAbsOkD
set_option linter.unusedVariables false
set_option linter.unusedSimpArgs false
namespace Go.Abs.L
open Go Go.Abs Go.ChangeShapes Go.WideShapes Go.ChangeAt Go.RowKit
end Go.Abs.L
set_option linter.unusedVariables false
set_option linter.unusedSimpArgs false
namespace Go.Abs.L
open Go Go.Abs Go.ChangeShapes Go.WideShapes
def mkD:List D→D
 | [d]=>d
 | ds=>.agg ds
def TyD (P:Program):Nat→TypeId→List D→Prop
 | 0,_,_=>False
 | n+1,t,ds=>match P.underlying t with
  | some .bool=>∃ b,ds=[.bool b]
  | some (.int k)=>∃ z,ds=[.int k z]∧(Lit.int k z).wf=true
  | some .string=>∃ s:List UInt8,ds=[.str s]∧s.length≤maxLen
  | some (.slice e)=>∃ xs:List D,ds=[.sl xs]∧xs.length≤maxLen∧∀ x∈xs,∃ es,x=mkD es∧TyD P n e es
  | some (.struct fs)=>(fs.toList.foldr (fun f K ds=>∃ p q,ds=p++q∧TyD P n f.type p∧K q) (fun ds=>ds=[])) ds
  | _=>False
def Zo0 (P:Program):Nat→List Field→Option Nat
 | o,[]=>some o
 | o,f :: r=>if f.offset=o then Zo0 P (o+P.cellsOf f.type) r else none
def ZxY (P:Program) (ts:List TypeId):Bool:=ts.all fun t=>match P.underlying t with
 | some .bool=>true
 | some (.int _)=>true
 | some .string=>true
 | some (.slice e)=>ts.contains e&&decide (0<P.cellsOf e)
 | some (.struct fs)=>fs.toList.all (fun f=>ts.contains f.type)&&Zo0 P 0 fs.toList==some (P.cellsOf t)
 | _=>false
theorem Zi0 {w:World} {S:Nat→Prop} {d:D} {v:Value} (h1:d.one=true) (h:ZQ w S d [v]):QT w S [d] [v]:=by
 simp only[QT];exact⟨v,[],rfl,h1,h,rfl⟩
theorem Zi1 {w:World} {S:Nat→Prop} {ds:List D} {vs:List Value} (h:QT w S ds vs):ZQ w S (mkD ds) vs:=by
 match ds,h with
 | [],h=>simpa [mkD,ZQ] using h
 | [d],h=>
  simp only[QT] at h;obtain⟨v,r,rfl,h1,h2,rfl⟩:=h;exact h2
 | d :: e :: r,h=>simpa [mkD,ZQ] using h
theorem cells?_len {w:World} {base:Nat} {a:Addr} {n:Nat} {cs:List Value} (h:w.cells? base a n=some cs):cs.length=n∧∀ i,i<n→w.cell? (a.add i)=cs[i]?:=by
 unfold World.cells? at h;split at h
 ·refine⟨by simpa using mapM_some_length h,fun i hi=>?_⟩;have:=mapM_some_get h i i (by simp[hi]);exact this
 ·cases h
theorem ZsJ {H:Type} {enc:TypeId×Value→H} {P:Program} {W:World} {sp:Nat→Bool} {ts:List TypeId} (hT:ZxY P ts=true):∀ (n:Nat) (t:TypeId) (cs:List Value) (x:DataW H×List MemPlace),t∈ts →
  DataW.trod enc P W 0 sp true n t cs=some x→∃ ds,TyD P n t ds∧QT W (fun b=>b<W.heap.size) ds cs
 | 0,t,cs,x,_,h=>by simp[DataW.trod] at h
 | n+1,t,cs,x,ht,h=>by
  have hk:=KU.1 hT t ht;cases hu:P.underlying t with
  | none=>rw[hu] at hk;cases hk
  | some k=>
   rw[hu] at hk;cases k with
   | bool=>
    unfold DataW.trod at h;rw[hu] at h;split at h<;>simp_all
    rename_i b;exact⟨[.bool b],by simp[TyD,hu],Zi0 rfl rfl⟩
   | int k=>
    obtain⟨z,rfl,_,hw⟩:=DataW.trod_int hu h;exact⟨[.int k z],by simp[TyD,hu,hw],Zi0 rfl rfl⟩
   | string=>
    obtain⟨s,rfl,_,hw⟩:=DataW.trod_string hu h;refine⟨[.str s.data.toList],?_,Zi0 rfl ⟨s,rfl,rfl⟩⟩;simp only[TyD,hu];exact⟨_,rfl,by simpa using hw⟩
   | slice e=>
    simp only[Kf,List.contains_iff_mem,Ko] at hk;rcases DataW.trod_slice hu h with ⟨rfl,_⟩ | ⟨a,len,ap,ak,aq,m,hm,rfl,_,_,ar,a4,a5,ah,_,_⟩
    ·refine⟨[.sl []],?_,Zi0 rfl ⟨none,0,rfl,Kp _,.inl rfl⟩⟩;simp only[TyD,hu];exact⟨[],rfl,by simp,by simp⟩
    ·cases hm;have ae:∀ i,i<len→∃ es ab,TyD P n e es∧QT W (fun b=>b<W.heap.size) es ab∧W.cells? 0 (a.add (i*P.cellsOf e)) (P.cellsOf e)=some ab:=by
      intro i hi;have h1:=ah i hi;rw[Kv (by omega),KZ] at h1;obtain⟨ab,h2,h3⟩:=h1;obtain⟨es,h4,h5⟩:=ZsJ hT n e ab _ hk.1 h3;exact⟨es,ab,h4,h5,h2⟩
     obtain⟨f,hf⟩:∃ f:Nat→List D,∀ i,i<len→∃ ab,TyD P n e (f i)∧QT W (fun b=>b<W.heap.size) (f i) ab∧W.cells? 0 (a.add (i*P.cellsOf e)) (P.cellsOf e)=some ab:=by
      refine⟨fun i=>if h:i<len then Classical.choose (ae i h) else [],fun i hi=>?_⟩;simp only[dif_pos hi];exact Classical.choose_spec (ae i hi)
     have ad:((List.range len).map fun i=>mkD (f i)).length=len:=by simp
     refine⟨[.sl ((List.range len).map fun i=>mkD (f i))],?_,Zi0 rfl ⟨some a,ap,by rw[ad],by rw[ad];exact ar,?_⟩⟩
     ·simp only[TyD,hu];refine⟨_,rfl,by rw[ad];omega,fun x hx=>?_⟩;obtain⟨i,hi,rfl⟩:=Li.1 hx;obtain⟨_,h1,_⟩:=hf i (by simpa using hi);exact⟨_,rfl,h1⟩
     ·by_cases h0:len=0
      ·left;rw[h0];rfl
      ·right
       obtain⟨b,off,ai⟩:=a;obtain⟨au,_,_,av⟩:=hf 0 (by omega);obtain⟨a6,aw⟩:=cells?_len av;have aa:=aw 0 hk.2;have aj:∃ v,au[0]?=some v:=⟨_,Kv (by omega)⟩
       obtain⟨v,hv⟩:=aj;rw[hv] at aa;have af:ai=none:=by simpa [Addr.add] using World.cell?_spot aa
       subst af;have hb:b<W.heap.size:=by
        rcases K3 b W.heap.size with h | h
        ·exact h
        ·exfalso
         have:W.heap[b]?=none:=by simp[h]
         simp[World.cell?,Addr.add,this] at aa
       refine⟨b,off,P.cellsOf e,rfl,hb,hk.2,?_⟩;rw[Yh];intro i x hx;have al:i<len:=by
        have:=(Kb.1 hx).1;simpa using this
       rw[K0,List.getElem?_range al] at hx;cases hx;obtain⟨ab,_,h2,h3⟩:=hf i al;obtain⟨g1,g2⟩:=cells?_len h3;refine⟨ab,g1,fun j u am=>?_,Zi1 h2⟩;have hj:j<P.cellsOf e:=by
        have:=(Kb.1 am).1;omega
       have:=g2 j hj;rw[am,Addr.add_lit,Addr.add_lit] at this;exact this
   | struct fs=>
    simp only[Kf,KU,List.contains_iff_mem,beq_iff_eq] at hk;obtain⟨ax,ay⟩:=hk;obtain⟨xs,m,hm,_,a7,az,hf⟩:=DataW.trod_struct hu h;cases hm;have a0:∀ (l:List Field) (i o:Nat),fs.toList.drop i=l→Zo0 P o l=some (P.cellsOf t)→o≤cs.length →
      ∃ ds,(l.foldr (fun f K ds=>∃ p q,ds=p++q∧TyD P n f.type p∧K q) (fun ds=>ds=[])) ds∧QT W (fun b=>b<W.heap.size) ds (cs.drop o):=by
     intro l
     induction l with
     | nil=>
      intro i o _ ho _;simp only[Zo0,Option.some.injEq] at ho;refine⟨[],rfl,?_⟩;rw[List.drop_of_length_le (by omega)];rfl
     | cons f r ih=>
      intro i o hd ho a8;simp only[Zo0] at ho;split at ho
      ·rename_i a1;have hi:fs.toList[i]?=some f:=by
        have:=congrArg (fun l=>l[0]?) hd;simpa using this
       have a2:i<xs.length:=by
        have:=(Kb.1 hi).1;rw[az];simpa using this
       have h1:=hf i f (by simpa using hi);rw[Kv a2] at h1;obtain⟨an,t1,r1⟩:=ZsJ hT n f.type _ _ (ax f (Kc hi)) h1;have ag:∀ (l:List Field) (a b:Nat),Zo0 P a l=some b→a≤b:=by
        intro l
        induction l with
        | nil=>intro a b h;simp[Zo0] at h;omega
        | cons g l ih2=>
         intro a b h;simp only[Zo0] at h;split at h
         ·have:=ih2 _ _ h;omega
         ·cases h
       have a3:=ag _ _ _ ho;obtain⟨ao,t2,r2⟩:=ih (i+1) (o+P.cellsOf f.type) (by
        have:=congrArg List.tail hd;simpa using this) ho (by omega)
       refine⟨an++ao,⟨an,ao,rfl,t1,t2⟩,?_⟩;have e:cs.drop o=(cs.drop f.offset).take (P.cellsOf f.type)++cs.drop (o+P.cellsOf f.type):=by
        rw[a1,← Kaq,Lq]
       rw[e];exact Q8.2 ((Q8.1 r1).append (Q8.1 r2))
      ·cases ho
    obtain⟨ds,h1,h2⟩:=a0 fs.toList 0 0 rfl ay (by omega);exact⟨ds,by simp only[TyD,hu];exact h1,by simpa using h2⟩
   | _=>cases hk
end Go.Abs.L
set_option linter.unusedVariables false
set_option linter.unusedSimpArgs false
namespace Go.Abs.L
open Go Go.Abs Go.ChangeShapes Go.WideShapes Go.RowKit
def Zlu (P:Program) (t:TypeId) (es:List D):D:=match P.underlying t with
 | some (.struct _)=>.agg es
 | _=>mkD es
def Zob (P:Program):List TypeId→List D→Prop
 | [],[]=>True
 | t :: ts,x :: xs=>(∃ n es,x=Zlu P t es∧TyD P n t es)∧Zob P ts xs
 | _,_=>False
theorem Zo1 {P:Program} {t:TypeId} {ts:List TypeId}:∀ {xs:List D},Zob P (t :: ts) xs→∃ n es ys,xs=Zlu P t es :: ys∧TyD P n t es∧Zob P ts ys
 | [],h=>h.elim
 | x :: xs,⟨⟨n,es,h1,h2⟩,h3⟩=>⟨n,es,xs,by rw[h1],h2,h3⟩
theorem ZBz {P:Program}:∀ {xs:List D},Zob P [] xs→xs=[]
 | [],_=>rfl
 | _ :: _,h=>h.elim
theorem ZGS {H:Type} {enc:TypeId×Value→H} {P:Program} {W:World} {sp:Nat→Bool} {ts:List TypeId} (hT:ZxY P ts=true) {base:Nat} {t:TypeId} {v:Value} {d:DataW H} {p:List MemPlace} (ht:t∈ts)
  (aa:Value.okWide P W .any base t v) (h:DataW.Trod enc P W 0 sp true t v d p):∃ n es,TyD P n t es∧Xb W (fun b=>b<W.heap.size) (Zlu P t es) v:=by
 obtain⟨n,hn⟩:=h;obtain⟨es,h1,h2⟩:=ZsJ hT n t _ _ ht hn;refine⟨n,es,h1,?_⟩;have hk:=KU.1 hT t ht;cases n with
 | zero=>exact h1.elim
 | succ n=>
  cases hu:P.underlying t with
  | none=>rw[hu] at hk;cases hk
  | some k=>
   rw[hu] at hk;simp only[TyD,hu] at h1;cases k with
   | struct fs=>
    simp only[Zlu,hu,Xb];simp only[Value.okWide,hu] at aa;obtain⟨cs,rfl,_⟩:=aa;exact⟨cs,rfl,by simpa [Value.cells] using h2⟩
   | bool=>
    obtain⟨b,rfl⟩:=okWide_bool hu aa;obtain⟨b',rfl⟩:=h1;simp only[Zlu,hu,mkD,Xb];have:=Zi1 h2;simpa [Value.cells,mkD] using this
   | int k=>
    obtain⟨b,rfl⟩:=okWide_int hu aa;obtain⟨b',rfl,_⟩:=h1;simp only[Zlu,hu,mkD,Xb];have:=Zi1 h2;simpa [Value.cells,mkD] using this
   | string=>
    obtain⟨b,rfl⟩:=okWide_string hu aa;obtain⟨b',rfl,_⟩:=h1;simp only[Zlu,hu,mkD,Xb];have:=Zi1 h2;simpa [Value.cells,mkD] using this
   | slice e=>
    obtain⟨a,l,c,rfl⟩:=okWide_slice hu aa;obtain⟨b',rfl,_⟩:=h1;simp only[Zlu,hu,mkD,Xb];have:=Zi1 h2;simpa [Value.cells,mkD] using this
   | _=>cases hk
theorem ZzQ {H:Type} {enc:TypeId×Value→H} {P:Program} {W:World} {sp:Nat→Bool} {T:List TypeId} (hT:ZxY P T=true) {base:Nat}:∀ {ts:List TypeId} {vs:List Value} {ds:List (DataW H)} {p:List MemPlace},
  (∀ t∈ts,t∈T)→(∀ (j:Nat) t v,ts[j]?=some t→vs[j]?=some v→Value.okWide P W .any base t v)→DataW.TrodAll enc P W 0 sp true ts vs ds p →
  ∃ xs,Zob P ts xs∧ZA (Xb W (fun b=>b<W.heap.size)) xs vs
 | [],[],[],p,_,_,_=>⟨[],trivial,trivial⟩
 | t :: ts,v :: vs,d :: ds,p,hm,hval,h=>by
  obtain⟨q,r,h1,h2,_⟩:=h;obtain⟨n,es,g1,g2⟩:=ZGS hT (hm t (by simp)) (hval 0 t v rfl rfl) h1;obtain⟨xs,g3,g4⟩:=ZzQ hT (ts:=ts) (vs:=vs) (fun t ht=>hm t (by simp[ht])) (fun j t v ht hv=>hval (j+1) t v (by simpa using ht) (by simpa using hv)) h2;exact⟨_ :: xs,⟨⟨n,es,rfl,g1⟩,g3⟩,g2,g4⟩
 | [],_ :: _,_,_,_,_,h=>h.elim
 | [],[],_ :: _,_,_,_,h=>h.elim
 | _ :: _,[],_,_,_,_,h=>h.elim
 | _ :: _,_ :: _,[],_,_,_,h=>h.elim
theorem ZBA {P:Program} {X:Fns} {M:Zs} (hS:QG P (Zd X M)) {f:FuncId} {xs:List D} (hv:Zd X M f (xs.map .d) []=some (.d (.bool true),[]))
  {W:World} (hG:Zjd (fun b=>b<W.heap.size) W) {vs:Array Value} (hr:ZA (Xb W (fun b=>b<W.heap.size)) xs vs.toList) :
  Calls P f vs W fun e W'=>e=.returned (.bool true)∧Below W.heap.size W W':=by
 obtain⟨_,hs⟩:=hS _ _ _ _ _ hv;have h:=hs (fun b=>W.heap.size≤b) (fun b=>W.heap.size≤b) (fun b=>b<W.heap.size) (fun _=>none) vs.toList W
  ⟨ZA.map_left (f:=AV.d) (fun a b ab=>Ql.2 ab) hr,fun id o hl=>(by cases hl),fun i j o o' b hi=>(by cases hi),fun b hb=>hb,fun b hb=>hb,fun b hb=>hb,fun _ _=>rfl,hG⟩
 rw[show vs.toList.toArray=vs by simp] at h;refine h.mono fun e W' ⟨v',I',Γ',he,hb⟩=>?_;subst he;have aa:=Ql.1 hb.res;have e1:v'=.bool true:=by
  have:[v']=[Value.bool true]:=aa;simpa using this
 subst e1;exact⟨rfl,⟨hb.fr.os,hb.fr.tape,hb.fr.output,hb.fr.size,fun k hk=>hb.fr.block k hk (by omega)⟩⟩
theorem ZkN {H:Type} {enc:TypeId×Value→H} {P:Program} (hl:laidOutB P=true) {W W' : World} (hn:Below W.heap.size W W'):∀ {ts:List TypeId} {vs:List Value} {ds:List (DataW H)} {p:List MemPlace},
  (∀ t∈ts,P.readableRec t=true∧t<P.types.size)→(∀ x∈p,x.block<W.heap.size)→DataW.TrodAll enc P W 0 (fun _=>true) true ts vs ds p→DataW.TrodAll enc P W' 0 (fun b=>decide (b<W.heap.size)) true ts vs ds p
 | [],[],[],p,_,_,h=>h
 | t :: ts,v :: vs,d :: ds,p,hm,hlt,h=>by
  obtain⟨q,r,h1,h2,rfl⟩:=h;exact⟨q,r,Below.trod hl (hm t (by simp)).1 (hm t (by simp)).2 h1 hn (fun x hx=>hlt x (by simp[hx])),ZkN hl hn (fun t ht=>hm t (by simp[ht])) (fun x hx=>hlt x (by simp[hx])) h2,rfl⟩
 | [],_ :: _,_,_,_,_,h=>h.elim
 | [],[],_ :: _,_,_,_,h=>h.elim
 | _ :: _,[],_,_,_,_,h=>h.elim
 | _ :: _,_ :: _,[],_,_,_,h=>h.elim
def Zgt (P:Program) {α:Type} (t:TypeId) (enc:α→D) (ok:α→Prop):Prop:=∀ n ds,TyD P n t ds→∃ a,ok a∧ds=(enc a).cells∧Zlu P t ds=enc a∧mkD ds=enc a
theorem Zwa {P:Program} {t:TypeId} (h:P.underlying t=some .string):Zgt P t D.str (fun s=>s.length≤maxLen):=by
 intro n ds hd;cases n with
 | zero=>exact hd.elim
 | succ n=>
  simp only[TyD,h] at hd;obtain⟨z,rfl,hz⟩:=hd;exact⟨z,hz,rfl,by simp only[Zlu,h];rfl,rfl⟩
theorem Zgu {P:Program} {α:Type} {t e:TypeId} {enc:α→D} {ok:α→Prop} (h:P.underlying t=some (.slice e)) (he:Zgt P e enc ok):Zgt P t (fun l:List α=>.sl (l.map enc)) (fun l=>l.length≤maxLen∧∀ x∈l,ok x):=by
 intro n ds hd;cases n with
 | zero=>exact hd.elim
 | succ n=>
  simp only[TyD,h] at hd;obtain⟨xs,rfl,hl,hx⟩:=hd;have:∃ l:List α,xs=l.map enc∧∀ x∈l,ok x:=by
   clear hl
   induction xs with
   | nil=>exact⟨[],rfl,by simp⟩
   | cons x xs ih=>
    obtain⟨l,h1,h2⟩:=ih fun y hy=>hx y (by simp[hy]);obtain⟨es,h3,h4⟩:=hx x (by simp);obtain⟨a,g1,_,_,g4⟩:=he n es h4;refine⟨a :: l,by rw[h3,g4,h1];rfl,fun y hy=>?_⟩;rcases Ke.1 hy with rfl | hy
    ·exact g1
    ·exact h2 y hy
  obtain⟨l,rfl,h2⟩:=this;exact⟨l,⟨by simpa using hl,h2⟩,rfl,by simp only[Zlu,h];rfl,rfl⟩
section
variable {P:Program} {i b:TypeId} (hi:P.underlying i=some (.int .i64)) (hb:P.underlying b=some .bool)
include hi
omit hi in
include hb
omit hb in
end
end Go.Abs.L
