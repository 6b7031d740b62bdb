/- The abstract semantics and the model: append. Own text. -/
import Derived.Test.YtkdjbefmiiibpaaGreatDoorAbsStep6
set_option linter.unusedVariables false
set_option linter.unusedSimpArgs false
namespace Go.Abs
open Go
section
variable {P:Program} {nt:Nat} {U:Nat→Prop} {F A I:Nat→Prop} {Γ:Gh} {sl:Sl} {hp:Hp} {a:Act} {w:World}
structure Src (P:Program) (w:World) (u:TypeId) (sz:Nat) (x:Value) (m:Nat) (news:List Value):Prop where
 type:∃ d,P.underlying u=some d∧∀ k,d≠.int k
 len:(Builtin.lenOf x).run P w=.ok m w
 cells:(Builtin.firstCells sz m x).run P w=.ok news.toArray w
 cells' : (Builtin.firstCells sz m x).run P w.drew=.ok news.toArray w.drew
 one:∀ v∈news,v.oneCell'=true
 length:news.length=m*sz
theorem Zfm {t u ty e:TypeId} {i:TypeInfo} (ht:P.underlying t=some (.slice e)) (hi:P.info? e=some i) {x:Value} {m:Nat} {news:List Value} (hs:Src P w u i.size x m news)
  {g n c:Nat} {cur:Array Value} {e' : TypeId} (hg:w.heap[g]?=some (.cells cur e' (0,0))) (hroom:n+m≤c) (hfit:n*i.size+news.length≤cur.size) :
  (Builtin.append_ #[t,u] ty #[.slice (some ⟨g,0,none⟩) n c,x]).run P w=.ok (.slice (some ⟨g,0,none⟩) (n+m) c) (w.setRow g (cur.toList.take (n*i.size)++news++cur.toList.drop (n*i.size+news.length)).toArray):=by
 obtain⟨d,hd,hdi⟩:=hs.type
 have hst:=run_storeCells_at P g (n*i.size) e' news 0 cur w hg (by simpa using hfit) hs.one
 simp only[Nat.add_zero] at hst
 have hz:(match d with | .int _=>true | _=>false)=false:=by cases d<;>first | rfl | exact absurd rfl (hdi _)
 simp only[Builtin.append_,sizeOf,typeInfo]
 simp[run_underlying ht,run_underlying hd,hi]
 cases d<;>first | exact absurd rfl (hdi _) | skip
 all_goals simp[hs.len,hroom,hs.cells,Addr.add_lit,hst]
theorem ZiS {t u ty e:TypeId} {i:TypeInfo} (ht:P.underlying t=some (.slice e)) (hi:P.info? e=some i) {x:Value} {news:List Value} (hs:Src P w u i.size x 0 news) {ad:Option Addr} {n c:Nat} (hnc:n≤c) :
  (Builtin.append_ #[t,u] ty #[.slice ad n c,x]).run P w=.ok (.slice ad n c) w:=by
 obtain⟨d,hd,hdi⟩:=hs.type
 have hn:news=[]:=List.eq_nil_of_length_eq_zero (by rw[hs.length];simp)
 have hc:=hs.cells
 rw[hn] at hc
 simp only[Builtin.append_,sizeOf,typeInfo]
 simp[run_underlying ht,run_underlying hd,hi]
 cases d<;>first | exact absurd rfl (hdi _) | skip
 all_goals
  simp[hs.len,hnc,hc]
  cases ad<;>simp[storeCells]
theorem ZiT {t u ty e:TypeId} {i:TypeInfo} {z:Value} (ht:P.underlying t=some (.slice e)) (hi:P.info? e=some i) (hz:i.zero=some z) {x:Value} {m:Nat} {news:List Value} (hs:Src P w u i.size x m news)
  {ad:Option Addr} {n c:Nat} {olds:List Value} (ho:(Builtin.firstCells i.size n (.slice ad n c)).run P w.drew=.ok olds.toArray w.drew) (hroom:c<n+m) (h63:((n+m:Nat):Int)≤9223372036854775807)
  (hfit:Builtin.nextslicecap (n+m) c*i.bytes≤281474976710656) :
  (Builtin.append_ #[t,u] ty #[.slice ad n c,x]).run P w=.ok (.slice (some ⟨w.heap.size,0,none⟩) (n+m) (grownCap w (n+m) c e))
   (w.drew.alloc (.cells ((olds++news).toArray++Builtin.zeroCells z.cells (grownCap w (n+m) c e-(n+m))) e)):=by
 obtain⟨d,hd,hdi⟩:=hs.type
 have hn:¬(n+m≤c):=by omega
 have h63' : ¬(9223372036854775807<((n:Int)+(m:Int))):=by omega
 have h48' : ¬(281474976710656<Builtin.nextslicecap (n+m) c*i.bytes):=by omega
 simp only[Builtin.append_,sizeOf,typeInfo,zeroValue]
 simp[run_underlying ht,run_underlying hd,hi,hz]
 cases d<;>first | exact absurd rfl (hdi _) | skip
 all_goals
  simp[hs.len,hn,h63',h48',Question.forced,ho,hs.cells',newRow,grownCap]
  congr 2
  apply Array.ext'
  simp
theorem drew_cell (w:World) (a:Addr):w.drew.cell? a=w.cell? a:=rfl
theorem Q4.drew {b o:Nat} {vs:List Value} (h:Q4 w b o vs):Q4 w.drew b o vs:=h
theorem Vl {sz n c:Nat} {ad:Option Addr} {news:List Value} (hl:news.length=n*sz) (h:n=0∨∃ b o,ad=some ⟨b,o,none⟩∧Q4 w b o news) :
  (Builtin.firstCells sz n (.slice ad n c)).run P w=.ok news.toArray w:=by
 rcases h with h | ⟨b,o,rfl,h⟩
 ·subst h
  have hn:news=[]:=List.eq_nil_of_length_eq_zero (by simpa using hl)
  subst hn
  cases ad<;>simp[Builtin.firstCells,loadCells,loadCellsFrom]
 ·exact run_firstCells_some (P:=P) w sz n ⟨b,o,none⟩ n c news hl fun j u hu=>by rw[JT];exact h j u hu
theorem ZlR {S:Nat→Prop} {b sz:Nat} {xs:List D} {o:Nat} (h:ZaS w S b sz xs o) (off n:Nat):ZaS w S b sz ((xs.drop off).take n) (o+off*sz):=by
 rw[YZ] at h ⊢
 intro i x hx
 rw[List.getElem?_take] at hx
 split at hx
 ·rw[List.getElem?_drop] at hx
  obtain⟨vs,h1,h2,h3⟩:=h _ x hx
  exact⟨vs,h1,by rw[Nat.add_mul,← Nat.add_assoc] at h2;exact h2,h3⟩
 ·cases hx
theorem UO {S:Nat→Prop} {sz:Nat}:Qc w S sz [] []:=trivial
theorem WF {w' : World} {S S' : Nat→Prop} {sz:Nat}:∀ {xs:List D} {cs:List (List Value)},Q7 xs→Qc w S sz xs cs→Qc w' S' sz xs cs
 | [],[],_,_=>trivial
 | [],_ :: _,_,h=>h.elim
 | _ :: _,[],_,h=>h.elim
 | x :: xs,c :: cs,hf,h=>⟨⟨h.1.1,ZpN (hf x (by simp)) h.1.2⟩,WF (fun y hy=>hf y (by simp[hy])) h.2⟩
theorem ZpU {S:Nat→Prop} {sz:Nat} {xs:List D} {cs:List (List Value)} (h:Qc w S sz xs cs):∀ v∈cs.flatten,v.oneCell'=true:=by
 intro v hv
 obtain⟨c,hc,hv⟩:=List.mem_flatten.1 hv
 obtain⟨i,hi⟩:=List.getElem?_of_mem hc
 obtain⟨d,_,hd⟩:=Zz.get' h i c hi
 obtain⟨j,hj⟩:=List.getElem?_of_mem hv
 obtain⟨d',hd',h1,h2⟩:=(Yf.1 hd.2.cells).get' j v hj
 exact Zsn (Γ:=fun _=>none) (w:=w) (I:=S) (x:=.d d') rfl ⟨h1,h2⟩
def inS (I A:Nat→Prop) (ex:Bool):Nat→Prop:=if ex then fun b=>I b∧A b else I
theorem Ztt {ex:Bool}:∀ b,inS I A ex b→I b:=by
 intro b h;unfold inS at h;cases ex<;>simp at h
 ·exact h
 ·exact h.1
theorem ZjM {ex ex' : Bool}:∀ b,inS I A ex b→inS I A (ex&&ex') b:=by
 intro b h;unfold inS at h ⊢;cases ex<;>cases ex' <;> simp at h ⊢
 ·exact h
 ·exact h
 ·exact h.1
 ·exact h
theorem ZbT {S S' : Nat→Prop} {sz:Nat} (h:∀ b,S b→S' b) {xs:List D} {cs:List (List Value)} (hc:Qc w S sz xs cs):Qc w S' sz xs cs:=hc.mono ⟨h,fun _ _=>rfl⟩
theorem ZDf {S:Nat→Prop} {b o sz:Nat} {xs:List D} (h:ZaS w S b sz xs o):∃ cs,Qc w S sz xs cs∧Q4 w b o cs.flatten:=Xn h
theorem ZpV {e u:TypeId} {str:Bool} (h:ZnC P e u=some str):(str=true∧P.underlying u=some .string)∨(str=false∧P.underlying u=some (.slice e)):=by
 unfold ZnC at h
 split at h
 ·rename_i e' he
  split at h
  ·rename_i hee;cases h;subst hee;exact .inr ⟨rfl,Xt he⟩
  ·cases h
 ·split at h
  ·rename_i hst;cases h;exact .inl ⟨rfl,ZaH hst⟩
  ·cases h
theorem Jg {u e:TypeId} (hu:P.underlying u=some (.slice e)) {S:Nat→Prop} {sz n c:Nat} {ad:Option Addr} {ys:List D} (hn:n=ys.length) {cs:List (List Value)} (hc:Qc w S sz ys cs)
  (h:n=0∨∃ b o,ad=some ⟨b,o,none⟩∧Q4 w b o cs.flatten):Src P w u sz (.slice ad n c) ys.length cs.flatten:=by
 subst hn
 have hl:=hc.length_flatten
 exact⟨⟨_,hu,fun k=>by simp⟩,by simp[Builtin.lenOf],Vl hl h,Vl hl (h.imp id fun ⟨b,o,h1,h2⟩=>⟨b,o,h1,h2.drew⟩),ZpU hc,hl⟩
theorem ZlS {S:Nat→Prop}:∀ (s:List UInt8),Qc w S 1 (s.map fun b=>.int .u8 b.toNat) (s.map fun b=>[.int .u8 b.toNat])
 | []=>trivial
 | b :: s=>⟨⟨rfl,by simp[Z2]⟩,ZlS s⟩
theorem ZBd (ho:ZbH Γ w I F A hp) {e u:TypeId} {str flat:Bool} (hsrc:ZnC P e u=some str) {sz:Nat} {x:AV} {xv:Value} (hx:Rep Γ w I x xv) {q:List D×Bool}
  (hq:(if str then Zpf x else Zgz hp flat x)=some q) (huni:uni sz q.1) (hflat:flat=true→Q7 q.1) :
  ∃ cs,Src P w u sz xv q.1.length cs.flatten∧Qc w (inS I A q.2) sz q.1 cs:=by
 rcases ZpV hsrc with ⟨rfl,hu⟩ | ⟨rfl,hu⟩
 ·simp only[if_true] at hq
  unfold Zpf at hq
  split at hq
  ·cases hq
   obtain⟨t,rfl,rfl⟩:=Zhj hx
   have hsz:t.data.toList=[]∨sz=1:=by
    cases ht:t.data.toList with
    | nil=>exact .inl rfl
    | cons b l=>right;have:=huni (.int .u8 b.toNat) (by simp[ht]);simpa [D.cells] using this.symm
   refine⟨t.data.toList.map fun b=>[.int .u8 b.toNat],?_,?_⟩
   ·have hfl:(t.data.toList.map fun b=>[Value.int .u8 b.toNat]).flatten=t.data.toList.map fun b=>Value.int .u8 b.toNat:=by
     induction t.data.toList with
     | nil=>rfl
     | cons b l ih=>simp[ih]
    have hsize:t.data.toList.length=t.size:=rfl
    have hfc:∀ w:World,(Builtin.firstCells sz t.size (.string t)).run P w=.ok (t.data.map fun b=>Value.int .u8 b.toNat) w:=by
     intro w
     have hx:t.extract 0 t.size=t:=by apply ByteArray.ext;rw[ByteArray.data_extract];exact Array.extract_size
     show (pure ((t.extract 0 t.size).data.map fun b=>Value.int .u8 b.toNat):Sem (Array Value)).run P w=_
     rw[hx];rfl
    have harr:(t.data.toList.map fun b=>Value.int .u8 b.toNat).toArray=t.data.map fun b=>Value.int .u8 b.toNat:=by
     apply Array.ext';simp
    rw[hfl]
    simp only[List.length_map,hsize]
    refine⟨⟨_,hu,fun k=>by simp⟩,by simp[Builtin.lenOf],by rw[hfc,harr],by rw[hfc,harr],?_,?_⟩
    ·intro v hv
     obtain⟨b,_,rfl⟩:=List.mem_map.1 hv
     rfl
    ·rcases hsz with h0 | h1
     ·have:t.size=0:=by rw[← hsize,h0];rfl
      simp[h0,this]
     ·subst h1;simp[hsize]
   ·rcases hsz with h0 | h1
    ·rw[h0];exact trivial
    ·subst h1;exact ZlS _
  ·cases hq
 ·simp only[Bool.false_eq_true,if_false] at hq
  unfold Zgz at hq
  split at hq
  ·cases hq
   obtain⟨ad,rfl⟩:=hx
   exact⟨[],Jg hu rfl (UO (S:=I)) (.inl rfl),trivial⟩
  ·rename_i ys
   cases hq
   have h1:=Q5.1 hx
   simp only[Yq,Z2] at h1
   obtain⟨ad,c,hv,hc,h1⟩:=h1
   simp at hv
   subst hv
   have hS:∀ {cs},Qc w I sz ys cs→Qc w (inS I A flat) sz ys cs:=by
    intro cs hcs
    cases flat
    ·exact hcs
    ·exact WF (hflat rfl) hcs
   rcases h1 with rfl | ⟨b,o,sz',rfl,hI,h0,hr⟩
   ·exact⟨[],Jg hu rfl (UO (S:=I)) (.inl rfl),trivial⟩
   ·cases ys with
    | nil=>exact⟨[],Jg hu rfl (UO (S:=I)) (.inl rfl),trivial⟩
    | cons y ys=>
     obtain⟨cs,h2,h3⟩:=Xn hr
     have hsz:sz'=sz:=by
      obtain⟨vs,h4,h5,h6⟩:=YZ.1 hr 0 y (by simp)
      rw[← h4,h6.length]
      exact huni y (by simp)
     subst hsz
     exact⟨cs,Jg hu rfl h2 (.inr ⟨b,o,rfl,h3⟩),hS h2⟩
  ·rename_i id
   unfold Zs8 at hq
   split at hq
   ·rename_i szr ys ex fz hl
    cases hq
    obtain⟨ad,n,c,h1,h2,h3⟩:=ho id _ hl
    obtain⟨ad',n',c',sz',h4,rfl⟩:=hx
    rw[h1] at h4;cases h4
    rcases h3 with h3 | ⟨g,cur,e',rfl,hc,hw,h4,h5,h6,h7,h8,hFg,h9⟩
    ·have hy:ys=[]:=List.eq_nil_of_length_eq_zero (by omega)
     subst hy
     exact⟨[],Jg hu h2 (UO (S:=I)) (.inl (by simpa using h2)),trivial⟩
    ·cases ys with
     | nil=>exact⟨[],Jg hu h2 (UO (S:=I)) (.inl (by simpa using h2)),trivial⟩
     | cons y ys=>
      obtain⟨cs,h10,h11⟩:=Xn h9
      have hsz:szr=sz:=by
       obtain⟨vs,h12,h13,h14⟩:=YZ.1 h9 0 y (by simp)
       rw[← h12,h14.length]
       exact huni y (by simp)
      subst hsz
      refine⟨cs,Jg hu h2 h10 (.inr ⟨g,0,rfl,h11⟩),?_⟩
      cases ex
      ·cases flat
       ·exact h10
       ·exact WF (hflat rfl) h10
      ·exact h10
   ·cases hq
  ·rename_i id off n
   unfold Zot at hq
   split at hq
   ·rename_i szr ys ex fz hl
    cases hq
    obtain⟨ad,m,c,h1,h2,h3⟩:=ho id _ hl
    obtain⟨a0,m',c',sz',av,h4,h5,h6,rfl,h7,h8⟩:=hx
    rw[h1] at h4;cases h4
    have hlen:n=((ys.drop off).take n).length:=by simp;omega
    by_cases hn0:n=0
    ·subst hn0
     simp only[List.take_zero]
     exact⟨[],Jg hu rfl (UO (S:=I)) (.inl rfl),trivial⟩
    ·rcases h3 with h3 | ⟨g,cur,e',rfl,hc,hw,h9,h10,h11,h12,h13,hFg,h14⟩
     ·omega
     ·obtain⟨cs,h15,h16⟩:=Xn (ZlR h14 off n)
      have hsz:szr=sz:=by
       obtain⟨y,hy⟩:∃ y,((ys.drop off).take n)[0]?=some y:=⟨_,List.getElem?_eq_getElem (by omega)⟩
       obtain⟨vs,h17,h18,h19⟩:=YZ.1 (ZlR h14 off n) 0 y hy
       rw[← h17,h19.length]
       exact huni y (List.mem_of_getElem? hy)
      subst hsz
      rcases h8 with h8 | h8
      ·subst h8
       refine⟨cs,Jg hu hlen h15 (.inr ⟨g,off*szr,by simp[JT],by simpa using h16⟩),?_⟩
       cases ex
       ·cases flat
        ·exact h15
        ·exact WF (hflat rfl) h15
       ·exact h15
      ·omega
   ·cases hq
  ·cases hq
end
end Go.Abs
