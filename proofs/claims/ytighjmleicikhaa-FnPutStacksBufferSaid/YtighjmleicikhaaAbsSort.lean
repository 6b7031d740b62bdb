/- Own text. -/
import Derived.Test.YtighjmleicikhaaAbsSort0
import Derived.Shelf.Sort.Plain
set_option linter.unusedSimpArgs false
set_option linter.unusedVariables false
namespace Go.Abs
open Go Go.Shelf Go.Proofs Go.Abs.E
variable {P:Program} {ρ:Ren}
theorem Zm0 {w:World} {g o:Nat} {cur:Array Value} {e:Nat} {fr:Nat×Nat} {d:Array Int} (h:w.heap[g]?=some (.cells cur e fr)) :
  (Sort.putRow (Value.int .i64) w g o d).heap[g]?=some (.cells (Sort.putCells (Value.int .i64) o d cur) e fr):=by
 simp only[Sort.putRow,Sort.mapBlock,Ln,Ki,h,KK,Sort.onCells]
theorem ZlV {w:World} {g o k:Nat} {d:Array Int} (h:k≠g):(Sort.putRow (Value.int .i64) w g o d).heap[k]?=w.heap[k]?:=by
 simp only[Sort.putRow,Sort.mapBlock,Ln,Kn (Ne.symm h)]
theorem ZnX (L:Proofs.Lays.n189 P ρ) (hE:Zmj P (ρ.f 189)):Zcr P (ρ.f 189) Zgw:=by
 intro a9 h r hs hp;unfold Zgw at hp;split at hp
 ·rename_i s xs ex;split at hp
  ·rename_i hc;obtain⟨rfl,h0,ba,hx⟩:=hc;cases hp;refine⟨hE,fun F A I Γ args w aa=>?_⟩;obtain⟨a,n,c,hg,hn,ai⟩:=aa.objs 0 _ rfl;have ha:=aa.args
   match args,ha with
   | [v],ha=>
    obtain⟨a',n',c',bb,ak,rfl⟩:=ha.1;rw[hg] at ak;cases ak;rcases ai with ⟨h1,_⟩ | ⟨g,o,cur,e,rfl,ar,hw,au,av,⟨aw,ax⟩,ay,al,hF,hR⟩
    ·exact absurd (List.length_eq_zero_iff.1 (by omega)) h0
    have hI:¬I g:=al;have aj:g<w.heap.size:=(Ks.1 hw).1;have ae:(xs.map unI).length=n:=by rw[Lf];exact hn.symm
    have ag:∀ j (hj:j<n),w.cell? ⟨g,o+j,none⟩=some (.int .i64 (xs.map unI)[j]!):=by
     intro j hj;have am:j<xs.length:=by omega
     obtain⟨vs,k1,k2,k3⟩:=Qy.1 hR j xs[j] (Kj am);have e1:xs[j]=mkI (xs.map unI)[j]!:=by
      have:xs[j]?=(((xs.map unI).map mkI))[j]?:=by rw[hx]
      rw[Kj am,Lj,Kj (by omega:j<(xs.map unI).length)] at this;rw[getElem!_pos (xs.map unI) j (by omega)];simpa using this
     rw[e1] at k3;simp only[mkI,Zx] at k3;subst k3;have:=k2 0 _ rfl;simpa using this
    have hH:Sort.Holds (Value.int .i64) w g o (xs.map unI).toArray:=by
     intro j hj;have az : j<n:=by simpa [ae] using hj
     refine⟨?_,?_⟩
     ·rw[ag j az];congr 2;simp
     ·simp[World.frozen?,hw]
    have ab:=Any.slices_Sort_int L g o c (xs.map unI) w hH aj (by rw[Lf];omega);rw[ae] at ab;refine ab.mono fun e' w' he=>?_;obtain⟨rfl,k,os,rfl⟩:=he;have an:(QP (xs.map unI)).length=n:=by unfold QP;rw[List.length_mergeSort];exact ae
    have ao:(Sort.grow (Sort.putRow (Value.int .i64) (Sort.ahead w k) g o (QP (xs.map unI)).toArray) os).heap[g]?=some (.cells (Sort.putCells (Value.int .i64) o (QP (xs.map unI)).toArray cur) e (0,0)):=by
     have h1:=Zm0 (w:=w) (o:=o) (d:=(QP (xs.map unI)).toArray) hw;show ((Sort.putRow (Value.int .i64) w g o (QP (xs.map unI)).toArray).heap++os)[g]?=_;rw[Array.getElem?_append_left (Ks.1 h1).1];exact h1
    have ap:∀ b,b<w.heap.size→b≠g→(Sort.grow (Sort.putRow (Value.int .i64) (Sort.ahead w k) g o (QP (xs.map unI)).toArray) os).heap[b]?=w.heap[b]?:=fun b hb a0=>by
     have h1:=ZlV (w:=w) (o:=o) (d:=(QP (xs.map unI)).toArray) a0;show ((Sort.putRow (Value.int .i64) w g o (QP (xs.map unI)).toArray).heap++os)[b]?=_;rw[Array.getElem?_append_left (by simp[Sort.putRow,Sort.mapBlock,hb])];exact h1
    have ad:w.heap.size≤(Sort.grow (Sort.putRow (Value.int .i64) (Sort.ahead w k) g o (QP (xs.map unI)).toArray) os).heap.size:=by
     simp[Sort.grow,Sort.putRow,Sort.mapBlock,Sort.ahead]
    have af:∀ (o1:Zg) {id:Nat} {o2:Zg},lkp (XP 0 [o1]) id=some o2→id=0∧o2=o1:=by
     intro o1 id o2 h;rw[Ym] at h;simp only[Nat.zero_le,Ki,LF] at h
     match id,h with
     | 0,h=>simp at h;exact⟨rfl,h.symm⟩
     | n+1,h=>simp at h
    have ah:∀ w',w'=Sort.grow (Sort.putRow (Value.int .i64) (Sort.ahead w k) g o (QP (xs.map unI)).toArray) os→w'.os=w.os∧w'.tape=w.tape∧w'.output=w.output:=fun w' h=>by subst h;exact⟨rfl,rfl,rfl⟩
    have ah:=ah _ rfl;have a1:(xs.map unI).mergeSort (fun x y=>decide (x≤y))=QP (xs.map unI):=rfl;rw[a1];generalize Sort.grow (Sort.putRow (Value.int .i64) (Sort.ahead w k) g o (QP (xs.map unI)).toArray) os=w' at *;have a2:n=((QP (xs.map unI)).map mkI).length:=by rw[Lf];exact an.symm
    refine⟨_,I,Γ,rfl,{ heads:=fun _ _ h=>h,keeps:=⟨fun _ h=>h,fun b hb=>ap b (aa.bound b hb) fun e=>hI (e ▸ hb)⟩,sub:=fun _ h=>.inl h,fr:=?_,res:=⟨#[],rfl,trivial⟩,objs:=?_,inj:=?_,bound:=fun b hb=>LY (aa.bound b hb) ad,names:=fun id a3=>aa.names id a3 }⟩
    ·exact⟨ah.1,ah.2.1,ah.2.2,ad,fun b hb hf=>ap b hb fun e=>hf (e ▸ hF)⟩
    ·intro id o2 a4;obtain⟨rfl,rfl⟩:=af _ a4;refine⟨some ⟨g,o,none⟩,n,c,hg,a2,.inr ⟨g,o,_,e,rfl,ar,ao,au,av,⟨by simpa [Sort.putCells] using aw,ax⟩,ay,al,hF,?_⟩⟩;rw[Qy];intro i x aq;rw[Lj] at aq;obtain⟨z,hz,rfl⟩:=Option.map_eq_some_iff.1 aq;obtain⟨a5,hz⟩:=Kb.1 hz;refine⟨[.int .i64 z],rfl,?_,by simp[mkI,Zx]⟩;intro j u hu
     match j,hu with
     | 0,hu=>
      simp only[Lh,Option.some.injEq] at hu;subst hu;have a6:o+i<cur.size:=by omega
      simp only[World.cell?,ao,Nat.mul_one,Lq,Sort.putCells,Array.getElem?_mapIdx,Array.getElem?_eq_getElem a6,KK];have a7:(QP (xs.map unI)).toArray.size=n:=by simpa using an
      have a8:o≤o+i∧o+i<o+(QP (xs.map unI)).toArray.size:=⟨by omega,by omega⟩
      simp only[a8,and_self,Ki,K5];simp[a5,hz]
     | j+1,hu=>simp at hu
    ·intro i j o1 o2 b hi hj _ _;rw[(af _ hi).1,(af _ hj).1]
  ·cases hp
 ·cases hp
end Go.Abs
