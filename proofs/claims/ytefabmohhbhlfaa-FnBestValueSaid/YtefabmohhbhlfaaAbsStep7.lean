/- Own text. -/
import Derived.Test.YtefabmohhbhlfaaAbsStep6
set_option linter.unusedVariables false
set_option linter.unusedSimpArgs false
namespace Go.Abs
open Go
section
variable {P:Program} {nt:Nat} {U:Nat→Prop} {F A I:Nat→Prop} {Γ:Gh} {sl:Sl} {hp:Hp} {a:Act} {w:World}
structure Src (P:Program) (w:World) (u:TypeId) (sz:Nat) (x:Value) (m:Nat) (news:List Value):Prop where
 type:∃ d,P.underlying u=some d∧∀ k,d≠.int k
 len:(Builtin.lenOf x).run P w=.ok m w
 cells:(Builtin.firstCells sz m x).run P w=.ok news.toArray w
 cells' : (Builtin.firstCells sz m x).run P w.drew=.ok news.toArray w.drew
 one:∀ v∈news,v.oneCell'=true
 length:news.length=m*sz
theorem UR {t u ty e:TypeId} {i:TypeInfo} (ht:P.underlying t=some (.slice e)) (hi:P.info? e=some i) {x:Value} {m:Nat} {news:List Value} (hs:Src P w u i.size x m news)
  {g q n c:Nat} {cur:Array Value} {e' : TypeId} (hg:w.heap[g]?=some (.cells cur e' (0,0))) (aa:n+m≤c) (ab:q+n*i.size+news.length≤cur.size) :
  (Builtin.append_ #[t,u] ty #[.slice (some ⟨g,q,none⟩) n c,x]).run P w=.ok (.slice (some ⟨g,q,none⟩) (n+m) c) (w.setRow g (cur.toList.take (q+n*i.size)++news++cur.toList.drop (q+n*i.size+news.length)).toArray):=by
 obtain⟨d,hd,ad⟩:=hs.type;have ae:=run_storeCells_at P g (q+n*i.size) e' news 0 cur w hg (by simpa using ab) hs.one;simp only[Lx] at ae;have hz:(match d with | .int _=>true | _=>false)=false:=by cases d<;>first | rfl | exact absurd rfl (ad _)
 simp only[Builtin.append_,sizeOf,typeInfo];simp[run_underlying ht,run_underlying hd,hi];cases d<;>first | exact absurd rfl (ad _) | skip
 all_goals simp[hs.len,aa,hs.cells,Addr.add_lit,ae]
theorem ZeS {t u ty e:TypeId} {i:TypeInfo} (ht:P.underlying t=some (.slice e)) (hi:P.info? e=some i) {x:Value} {news:List Value} (hs:Src P w u i.size x 0 news) {ad:Option Addr} {n c:Nat} (aa:n≤c) :
  (Builtin.append_ #[t,u] ty #[.slice ad n c,x]).run P w=.ok (.slice ad n c) w:=by
 obtain⟨d,hd,ab⟩:=hs.type;have hn:news=[]:=Kh (by rw[hs.length];simp);have hc:=hs.cells;rw[hn] at hc;simp only[Builtin.append_,sizeOf,typeInfo];simp[run_underlying ht,run_underlying hd,hi];cases d<;>first | exact absurd rfl (ab _) | skip
 all_goals
  simp[hs.len,aa,hc];cases ad<;>simp[storeCells]
theorem ZeT {t u ty e:TypeId} {i:TypeInfo} {z:Value} (ht:P.underlying t=some (.slice e)) (hi:P.info? e=some i) (hz:i.zero=some z) {x:Value} {m:Nat} {news:List Value} (hs:Src P w u i.size x m news)
  {ad:Option Addr} {n c:Nat} {aa:List Value} (ho:(Builtin.firstCells i.size n (.slice ad n c)).run P w.drew=.ok aa.toArray w.drew) (af:c<n+m) (ai:((n+m:Nat):Int)≤9223372036854775807)
  (ag:Builtin.nextslicecap (n+m) c*i.bytes≤281474976710656) :
  (Builtin.append_ #[t,u] ty #[.slice ad n c,x]).run P w=.ok (.slice (some ⟨w.heap.size,0,none⟩) (n+m) (grownCap w (n+m) c e))
   (w.drew.alloc (.cells ((aa++news).toArray++Builtin.zeroCells z.cells (grownCap w (n+m) c e-(n+m))) e)):=by
 obtain⟨d,hd,ah⟩:=hs.type;have hn:¬(n+m≤c):=by omega
 have ab : ¬(9223372036854775807<((n:Int)+(m:Int))):=by omega
 have ae : ¬(281474976710656<Builtin.nextslicecap (n+m) c*i.bytes):=by omega
 simp only[Builtin.append_,sizeOf,typeInfo,zeroValue];simp[run_underlying ht,run_underlying hd,hi,hz];cases d<;>first | exact absurd rfl (ah _) | skip
 all_goals
  simp[hs.len,hn,ab,ae,Question.forced,ho,hs.cells',newRow,grownCap];congr 2
  apply Array.ext';simp
theorem drew_cell (w:World) (a:Addr):w.drew.cell? a=w.cell? a:=rfl
theorem Z0.drew {b o:Nat} {vs:List Value} (h:Z0 w b o vs):Z0 w.drew b o vs:=h
theorem Xw {sz n c:Nat} {ad:Option Addr} {news:List Value} (hl:news.length=n*sz) (h:n=0∨∃ b o,ad=some ⟨b,o,none⟩∧Z0 w b o news) :
  (Builtin.firstCells sz n (.slice ad n c)).run P w=.ok news.toArray w:=by
 rcases h with h | ⟨b,o,rfl,h⟩
 ·subst h;have hn:news=[]:=Kh (by simpa using hl);subst hn;cases ad<;>simp[Builtin.firstCells,loadCells,loadCellsFrom]
 ·exact run_firstCells_some (P:=P) w sz n ⟨b,o,none⟩ n c news hl fun j u hu=>by rw[Yq];exact h j u hu
theorem ZaY {S:Nat→Prop} {b sz:Nat} {xs:List D} {o:Nat} (h:YS w S b sz xs o) (off n:Nat):YS w S b sz ((xs.drop off).take n) (o+off*sz):=by
 rw[Q8] at h ⊢;intro i x hx;rw[KS] at hx;split at hx
 ·rw[KX] at hx;obtain⟨vs,h1,h2,h3⟩:=h _ x hx;exact⟨vs,h1,by rw[KA,← KD] at h2;exact h2,h3⟩
 ·cases hx
theorem XJ {S:Nat→Prop} {sz:Nat}:ZL w S sz [] []:=trivial
theorem US {w' : World} {S S' : Nat→Prop} {sz:Nat}:∀ {xs:List D} {cs:List (List Value)},QC xs→ZL w S sz xs cs→ZL w' S' sz xs cs
 | [],[],_,_=>trivial
 | [],_ :: _,_,h=>h.elim
 | _ :: _,[],_,h=>h.elim
 | x :: xs,c :: cs,hf,h=>⟨⟨h.1.1,ZgO (hf x (by simp)) h.1.2⟩,US (fun y hy=>hf y (by simp[hy])) h.2⟩
theorem ZgV {S:Nat→Prop} {sz:Nat} {xs:List D} {cs:List (List Value)} (h:ZL w S sz xs cs):∀ v∈cs.flatten,v.oneCell'=true:=by
 intro v hv;obtain⟨c,hc,hv⟩:=List.mem_flatten.1 hv;obtain⟨i,hi⟩:=LK hc;obtain⟨d,_,hd⟩:=Zp.get' h i c hi;obtain⟨j,hj⟩:=LK hv;obtain⟨d',aa,h1,h2⟩:=(QE.1 hd.2.cells).get' j v hj;exact Zi3 (Γ:=fun _=>none) (w:=w) (I:=S) (x:=.d d') rfl ⟨h1,h2⟩
def inS (I A:Nat→Prop) (ex:Bool):Nat→Prop:=if ex then fun b=>I b∧A b else I
theorem Zbu {ex:Bool}:∀ b,inS I A ex b→I b:=by
 intro b h;unfold inS at h;cases ex<;>simp at h
 ·exact h
 ·exact h.1
theorem Zbv {ex aa : Bool}:∀ b,inS I A ex b→inS I A (ex&&aa) b:=by
 intro b h;unfold inS at h ⊢;cases ex<;>cases aa <;> simp at h ⊢
 ·exact h
 ·exact h
 ·exact h.1
 ·exact h
theorem Yy {S S' : Nat→Prop} {sz:Nat} (h:∀ b,S b→S' b) {xs:List D} {cs:List (List Value)} (hc:ZL w S sz xs cs):ZL w S' sz xs cs:=hc.mono ⟨h,fun _ _=>rfl⟩
theorem ZqI {S:Nat→Prop} {b o sz:Nat} {xs:List D} (h:YS w S b sz xs o):∃ cs,ZL w S sz xs cs∧Z0 w b o cs.flatten:=QN h
theorem ZgW {e u:TypeId} {str:Bool} (h:ZeI P e u=some str):(str=true∧P.underlying u=some .string)∨(str=false∧P.underlying u=some (.slice e)):=by
 unfold ZeI at h;split at h
 ·rename_i e' he;split at h
  ·rename_i aa;cases h;subst aa;exact .inr ⟨rfl,Ql he⟩
  ·cases h
 ·split at h
  ·rename_i ab;cases h;exact .inl ⟨rfl,Vg ab⟩
  ·cases h
theorem YL {u e:TypeId} (hu:P.underlying u=some (.slice e)) {S:Nat→Prop} {sz n c:Nat} {ad:Option Addr} {ys:List D} (hn:n=ys.length) {cs:List (List Value)} (hc:ZL w S sz ys cs)
  (h:n=0∨∃ b o,ad=some ⟨b,o,none⟩∧Z0 w b o cs.flatten):Src P w u sz (.slice ad n c) ys.length cs.flatten:=by
 subst hn;have hl:=hc.length_flatten;exact⟨⟨_,hu,fun k=>by simp⟩,by simp[Builtin.lenOf],Xw hl h,Xw hl (h.imp id fun ⟨b,o,h1,h2⟩=>⟨b,o,h1,h2.drew⟩),ZgV hc,hl⟩
theorem Zdh {S:Nat→Prop}:∀ (s:List UInt8),ZL w S 1 (s.map fun b=>.int .u8 b.toNat) (s.map fun b=>[.int .u8 b.toNat])
 | []=>trivial
 | b :: s=>⟨⟨rfl,by simp[ZG]⟩,Zdh s⟩
theorem src_ok (ho:V9 Γ w I F A hp) {e u:TypeId} {str flat:Bool} (al:ZeI P e u=some str) {sz:Nat} {x:AV} {xv:Value} (hx:Rep Γ w I x xv) {q:List D×Bool}
  (hq:(if str then Zga x else ZaD hp flat x)=some q) (ae:uni sz q.1) (aa:flat=true→QC q.1) :
  ∃ cs,Src P w u sz xv q.1.length cs.flatten∧ZL w (inS I A q.2) sz q.1 cs:=by
 rcases ZgW al with ⟨rfl,hu⟩ | ⟨rfl,hu⟩
 ·simp only[Kl] at hq;unfold Zga at hq;split at hq
  ·cases hq;obtain⟨t,rfl,rfl⟩:=JL hx;have af:t.data.toList=[]∨sz=1:=by
    cases ht:t.data.toList with
    | nil=>exact .inl rfl
    | cons b l=>right;have:=ae (.int .u8 b.toNat) (by simp[ht]);simpa [D.cells] using this.symm
   refine⟨t.data.toList.map fun b=>[.int .u8 b.toNat],?_,?_⟩
   ·have au:(t.data.toList.map fun b=>[Value.int .u8 b.toNat]).flatten=t.data.toList.map fun b=>Value.int .u8 b.toNat:=by
     induction t.data.toList with
     | nil=>rfl
     | cons b l ih=>simp[ih]
    have ab:t.data.toList.length=t.size:=rfl;have ao:∀ w:World,(Builtin.firstCells sz t.size (.string t)).run P w=.ok (t.data.map fun b=>Value.int .u8 b.toNat) w:=by
     intro w;have hx:t.extract 0 t.size=t:=by apply ByteArray.ext;rw[ByteArray.data_extract];exact Array.extract_size
     show (pure ((t.extract 0 t.size).data.map fun b=>Value.int .u8 b.toNat):Sem (Array Value)).run P w=_;rw[hx];rfl
    have ag:(t.data.toList.map fun b=>Value.int .u8 b.toNat).toArray=t.data.map fun b=>Value.int .u8 b.toNat:=by
     apply Array.ext';simp
    rw[au];simp only[KQ,ab];refine⟨⟨_,hu,fun k=>by simp⟩,by simp[Builtin.lenOf],by rw[ao,ag],by rw[ao,ag],?_,?_⟩
    ·intro v hv;obtain⟨b,_,rfl⟩:=Lc.1 hv;rfl
    ·rcases af with h0 | h1
     ·have:t.size=0:=by rw[← ab,h0];rfl
      simp[h0,this]
     ·subst h1;simp[ab]
   ·rcases af with h0 | h1
    ·rw[h0];exact trivial
    ·subst h1;exact Zdh _
  ·cases hq
 ·simp only[Ka,Kj] at hq;unfold ZaD at hq;split at hq
  ·cases hq;obtain⟨ad,rfl⟩:=hx;exact⟨[],YL hu rfl (XJ (S:=I)) (.inl rfl),trivial⟩
  ·rename_i ys;cases hq;have h1:=QB.1 hx;simp only[QV,ZG] at h1;obtain⟨ad,c,hv,hc,h1⟩:=h1;simp at hv;subst hv;have hS:∀ {cs},ZL w I sz ys cs→ZL w (inS I A flat) sz ys cs:=by
    intro cs ap;cases flat
    ·exact ap
    ·exact US (aa rfl) ap
   rcases h1 with rfl | ⟨b,o,am,rfl,hI,h0,hr⟩
   ·exact⟨[],YL hu rfl (XJ (S:=I)) (.inl rfl),trivial⟩
   ·cases ys with
    | nil=>exact⟨[],YL hu rfl (XJ (S:=I)) (.inl rfl),trivial⟩
    | cons y ys=>
     obtain⟨cs,h2,h3⟩:=QN hr;have af:am=sz:=by
      obtain⟨vs,h4,h5,h6⟩:=Q8.1 hr 0 y (by simp);rw[← h4,h6.length];exact ae y (by simp)
     subst af;exact⟨cs,YL hu rfl h2 (.inr ⟨b,o,rfl,h3⟩),hS h2⟩
  ·rename_i id;unfold ZjK at hq;split at hq
   ·rename_i ai ys ex fz hl;cases hq;obtain⟨ad,n,c,h1,h2,h3⟩:=ho id _ hl;obtain⟨a3,n',c',am,h4,rfl⟩:=hx;rw[h1] at h4;cases h4;rcases h3 with h3 | ⟨g,q0,cur,e',rfl,hc,hw,h4,h5,h6,h7,h8,aw,h9⟩
    ·have hy:ys=[]:=Kh (by omega);subst hy;exact⟨[],YL hu h2 (XJ (S:=I)) (.inl (by simpa using h2)),trivial⟩
    ·cases ys with
     | nil=>exact⟨[],YL hu h2 (XJ (S:=I)) (.inl (by simpa using h2)),trivial⟩
     | cons y ys=>
      obtain⟨cs,ah,aq⟩:=QN h9;have af:ai=sz:=by
       obtain⟨vs,ar,ax,aj⟩:=Q8.1 h9 0 y (by simp);rw[← ar,aj.length];exact ae y (by simp)
      subst af;refine⟨cs,YL hu h2 ah (.inr ⟨g,q0,rfl,aq⟩),?_⟩;cases ex
      ·cases flat
       ·exact ah
       ·exact US (aa rfl) ah
      ·exact ah
   ·cases hq
  ·rename_i id off n;unfold Zfi at hq;split at hq
   ·rename_i ai ys ex fz hl;cases hq;obtain⟨ad,m,c,h1,h2,h3⟩:=ho id _ hl;obtain⟨a0,m',c',am,av,h4,h5,h6,rfl,h7,h8⟩:=hx;rw[h1] at h4;cases h4;have an:n=((ys.drop off).take n).length:=by simp;omega
    by_cases ay:n=0
    ·subst ay;simp only[List.take_zero];exact⟨[],YL hu rfl (XJ (S:=I)) (.inl rfl),trivial⟩
    ·rcases h3 with h3 | ⟨g,q0,cur,e',rfl,hc,hw,h9,ah,aq,ar,ax,aw,aj⟩
     ·omega
     ·obtain⟨cs,ak,az⟩:=QN (ZaY aj off n);have af:ai=sz:=by
       obtain⟨y,hy⟩:∃ y,((ys.drop off).take n)[0]?=some y:=⟨_,Kx (by omega)⟩
       obtain⟨vs,a1,a4,a2⟩:=Q8.1 (ZaY aj off n) 0 y hy;rw[← a1,a2.length];exact ae y (Kg hy)
      subst af;rcases h8 with h8 | h8
      ·subst h8;refine⟨cs,YL hu an ak (.inr ⟨g,q0+off*ai,by simp[Yq],az⟩),?_⟩;cases ex
       ·cases flat
        ·exact ak
        ·exact US (aa rfl) ak
       ·exact ak
      ·omega
   ·cases hq
  ·cases hq
end
end Go.Abs
