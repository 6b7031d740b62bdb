/- Own text. -/
import Derived.Test.YtefabmohhbhlfaaAbsRep
import Derived.Laws.MakeOwn
import Derived.Laws.StructEq
import Derived.Laws.Concat
import Derived.Laws.Slices
set_option linter.unusedVariables false
set_option linter.unusedSimpArgs false
namespace Go.Abs
open Go
section
variable {P:Program}
theorem Qp {t e:TypeId} (h:Q8 P t=some e):P.underlying t=some (.slice e):=by
 unfold Q8 at h;split at h
 ·cases h;assumption
 ·cases h
theorem VF {t:TypeId} (h:WC P t=true):P.underlying t=some .string:=by
 unfold WC at h;split at h
 ·assumption
 ·cases h
theorem Zjz {t:TypeId} {k:IntKind} (h:ZpF P t=some k):P.underlying t=some (.int k):=by
 unfold ZpF at h;split at h
 ·cases h;assumption
 ·cases h
theorem ZjA {t:TypeId} {a:Nat×TypeId} (h:ZcN P t=some a):P.underlying t=some (.array a.1 a.2):=by
 unfold ZcN at h;split at h
 ·cases h;assumption
 ·cases h
theorem X5 {t:TypeId} {g:Bool} (h:JZ P t=some g) (w:World):(isAgg t).run P w=.ok g w:=by
 unfold JZ at h;unfold isAgg;split at h
 ·cases h;rename_i hu;simp[run_underlying hu]
 ·cases h;rename_i hu;simp[run_underlying hu]
 ·cases h;rename_i d h1 h2 hu;simp only[Sem.run_bind,run_underlying hu,Result.andThen_ok];cases d<;>first | rfl | (exfalso;exact h1 _ hu) | (exfalso;exact h2 _ _ hu)
 ·cases h
theorem Vz {t:TypeId} {d:TypeDesc} (h:P.underlying t=some d):∃ i,P.info? t=some i:=by
 unfold Program.underlying at h;cases hi:P.info? t with
 | none=>rw[hi] at h;cases h
 | some i=>exact⟨i,rfl⟩
theorem Qq {t:TypeId} {i:TypeInfo} (h:P.info? t=some i) (w:World):(sizeOf t).run P w=.ok (P.cellsOf t) w:=by
 simp[sizeOf,typeInfo,h,Program.cellsOf]
theorem Zct {t:TypeId} (h:P.cellsOf t≠0):∃ i,P.info? t=some i:=by
 cases hi:P.info? t with
 | none=>simp[Program.cellsOf,hi] at h
 | some i=>exact⟨i,rfl⟩
theorem ZbW {t:TypeId} {g:Bool} (h:JZ P t=some g):∃ i,P.info? t=some i:=by
 unfold JZ at h;split at h
 ·rename_i hu;exact Vz hu
 ·rename_i hu;exact Vz hu
 ·rename_i hu;exact Vz hu
 ·cases h
theorem Zbd {s:TypeId} {f:Nat} {q:Nat×TypeId} (h:Zas P s f=some q) :
  ∃ fs x,P.underlying s=some (.struct fs)∧fs[f]?=some x∧x.offset=q.1∧x.type=q.2∧P.cellsOf q.2≠0:=by
 unfold Zas at h;split at h
 ·rename_i fs hu;split at h
  ·rename_i x hx;split at h
   ·cases h
   ·cases h;exact⟨fs,x,hu,hx,rfl,rfl,by assumption⟩
  ·cases h
 ·cases h
theorem Zal {t:TypeId} {z:Value} (h:W2 P t=some z):∃ i,P.info? t=some i∧i.zero=some z:=by
 unfold W2 at h;split at h
 ·rename_i i hi;exact⟨i,hi,h⟩
 ·cases h
theorem JX {t:TypeId} {z:Value} (h:W2 P t=some z) (w:World):(zeroValue t).run P w=.ok z w:=by
 obtain⟨i,hi,hz⟩:=Zal h;simp[zeroValue,typeInfo,hi,hz]
theorem XS {t:TypeId} (h:Ve P t=true):∃ i z,P.info? t=some i∧i.zero=some z∧z.cells.size=i.size∧0<i.size∧P.cellsOf t=i.size∧P.bytesOf t=i.bytes:=by
 unfold Ve at h;split at h
 ·rename_i i hi;split at h
  ·rename_i z hz;simp at h;exact⟨i,z,hi,hz,h.1,h.2,by simp[Program.cellsOf,hi],by simp[Program.bytesOf,hi]⟩
  ·cases h
 ·cases h
end
section
variable {P:Program} {Γ:Gh} {w:World} {I:Nat→Prop}
theorem Zep (v:Value):QT Γ w I (Vb v) v:=by
 cases v<;>try exact trivial
 ·exact⟨rfl,by simp[ZH]⟩
 ·exact⟨rfl,by simp[ZH]⟩
 ·exact⟨rfl,_,rfl,rfl⟩
 ·rename_i a;cases a
  ·rfl
  ·exact trivial
 ·rename_i a n c;cases a
  ·cases n
   ·cases c
    ·exact⟨none,rfl⟩
    ·exact trivial
   ·exact trivial
  ·exact trivial
 ·rfl
theorem ZjB:∀ (vs:List Value),Zq (QT Γ w I) (vs.map Vb) vs
 | []=>trivial
 | v :: vs=>⟨Zep v,ZjB vs⟩
theorem Zot (v:Value):Rep Γ w I (evC v) v:=by
 cases v with
 | agg cs=>exact Zb2 (ZjB cs.toList)
 | _=>simp only[evC];exact(Zep _).rep2.rep
def Up (Γ:Gh) (w:World) (I:Nat→Prop) (sl:Sl) (a:Act):Prop:=∀ t,Rep Γ w I (gs sl t) (a.tmps.getD t undef)
theorem Up.ev {sl:Sl} {a:Act} (h:Up Γ w I sl a) {x:Operand} {y:Opd} (hc:ZJ x=some y):Rep Γ w I (evO sl y) (a.eval x):=by
 cases x with
 | tmp t=>simp only[ZJ] at hc;cases hc;exact h t
 | const v=>simp only[ZJ] at hc;cases hc;exact Zot v
 | global g=>simp only[ZJ] at hc;cases hc
 | func f=>simp only[ZJ] at hc;cases hc;exact⟨#[],rfl,trivial⟩
theorem Up.evL {sl:Sl} {a:Act} (h:Up Γ w I sl a):∀ {xs:List Operand} {ys:List Opd},Qb ZJ xs=some ys→Zq (Rep Γ w I) (evL sl ys) (xs.map a.eval)
 | [],ys,hc=>by simp only[Qb] at hc;cases hc;exact trivial
 | x :: xs,ys,hc=>by
  simp only[Qb] at hc;obtain⟨y,h1,hc⟩:=Za hc;obtain⟨aa,h2,hc⟩:=Za hc;cases hc;exact⟨h.ev h1,h.evL h2⟩
theorem Uq {k:IntKind} {n:Int} {v:Value} (h:Rep Γ w I (.d (.int k n)) v):v=.int k n:=by
 have:=QE.1 h;simpa [QZ,ZH] using this
theorem JY {b:Bool} {v:Value} (h:Rep Γ w I (.d (.bool b)) v):v=.bool b:=by
 have:=QE.1 h;simpa [QZ,ZH] using this
theorem Zam {s:List UInt8} {v:Value} (h:Rep Γ w I (.d (.str s)) v):∃ t:ByteArray,v=.string t∧t.data.toList=s:=by
 have:=QE.1 h;simpa [QZ,ZH] using this
theorem ZgW {ds:List D} {v:Value} (h:Rep Γ w I (.d (.agg ds)) v):∃ vs,v=.agg vs∧Qu w I ds vs.toList:=QE.1 h
theorem UH (k:IntKind) (n:Int):Rep Γ w I (.d (.int k n)) (.int k n):=QE.2 (by simp[QZ,ZH])
theorem Zpt (b:Bool):Rep Γ w I (.d (.bool b)) (.bool b):=QE.2 (by simp[QZ,ZH])
theorem ZlV {t:ByteArray} {s:List UInt8} (h:t.data.toList=s):Rep Γ w I (.d (.str s)) (.string t):=QE.2 (by simp[QZ,ZH,h])
theorem Yr {x:AV} {n:Int} {v:Value} (hi:idx x=some n) (h:Rep Γ w I x v):∃ k,v=.int k n:=by
 unfold idx at hi;split at hi
 ·cases hi;exact⟨_,Uq h⟩
 ·cases hi
theorem ZlW {R:AV→Value→Prop} {cs:List AV} {vs:Array Value} (h:Zq R cs vs.toList) (off s:Nat) :
  Zq R ((cs.drop off).take s) (vs.extract off (off+s)).toList:=by
 have:=(h.drop off).take s;simpa [Array.toList_extract,List.extract_eq_take_drop] using this
theorem ZlX {t:TypeId} {g:Bool} (hg:JZ P t=some g) {off:Nat} {x r:AV} {v:Value} (h:Rep Γ w I x v) (hp:Zdo g (P.cellsOf t) off x=some r) :
  ∃ cs u,v=.agg cs∧(part t cs off).run P w=.ok u w∧Rep Γ w I r u:=by
 obtain⟨i,hi⟩:=ZbW hg;have hs:=Qq hi w;unfold Zdo at hp;split at hp
 ·obtain⟨vs,rfl,hr⟩:=ZgW h;unfold UJ at hp;cases g
  ·simp only[Ka,Ki,asD] at hp;obtain⟨d,hd,hp⟩:=Za hp;cases hp;obtain⟨u,hu,h1,h2⟩:=(QG.1 hr).get off d hd;refine⟨vs,u,rfl,?_,QE.2 ((QZ.one h1).2 h2)⟩;have aa : vs[off]?=some u:=by simpa using hu
   simp[part,X5 hg,aa]
  ·simp only[Kk] at hp;split at hp
   ·cases hp;refine⟨vs,.agg (vs.extract off (off+P.cellsOf t)),rfl,by simp[part,X5 hg,hs],QE.2 ⟨_,rfl,?_⟩⟩;rw[QG] at hr ⊢;have:=(hr.drop off).take (P.cellsOf t);simpa [Array.toList_extract,List.extract_eq_take_drop] using this
   ·cases hp
 ·obtain⟨vs,rfl,hr⟩:=h;cases g
  ·simp only[Ka,Ki] at hp;obtain⟨u,hu,h1⟩:=hr.get off r hp;have aa : vs[off]?=some u:=by simpa using hu
   exact⟨vs,u,rfl,by simp[part,X5 hg,aa],h1.rep2.rep⟩
  ·simp only[Kk] at hp;split at hp
   ·cases hp;exact⟨vs,.agg (vs.extract off (off+P.cellsOf t)),rfl,by simp[part,X5 hg,hs],Zb2 (ZlW (hr.mono fun _ _ h=>h.repB) _ _)⟩
   ·cases hp
 ·cases hp
theorem YH (b o n:Nat):(⟨b,o,none⟩:Addr).add n=⟨b,o+n,none⟩:=by unfold Addr.add;split<;>simp_all
theorem Zfk {t:TypeId} {g:Bool} (hg:JZ P t=some g) {b o:Nat} {vs:List Value} (h:Z7 w b o vs) (hl:vs.length=P.cellsOf t) (h1:g=false→∃ u,vs[0]?=some u) :
  ∃ u,(loadVar t ⟨b,o,none⟩).run P w=.ok u w∧(if g then u=.agg vs.toArray else vs[0]?=some u):=by
 obtain⟨i,hi⟩:=ZbW hg;cases g
 ·obtain⟨u,hu⟩:=h1 rfl;have:=h 0 u hu;exact⟨u,by simp[loadVar,X5 hg,show w.cell? ⟨b,o,none⟩=some u from by simpa using this],by simpa using hu⟩
 ·refine⟨.agg vs.toArray,?_,by simp⟩;have hc:(loadCells ⟨b,o,none⟩ vs.length).run P w=.ok vs.toArray w:=run_loadCells_list (P:=P) w _ vs fun j u hu=>by
   rw[YH];exact h j u hu
  rw[hl] at hc;simp[loadVar,X5 hg,Qq hi w,hc]
def Wz (Γ:Gh) (w:World) (I F A:Nat→Prop) (hp:Hp):Prop:=∀ id o,lkp hp id=some o→XF Γ w I F A id o
theorem Z7.drop {b o:Nat} {vs:List Value} (h:Z7 w b o vs) (n:Nat):Z7 w b (o+n) (vs.drop n):=fun j u hu=>by
 have:=h (n+j) u (by simpa [KY] using hu);simpa [KI] using this
theorem Z7.take {b o:Nat} {vs:List Value} (h:Z7 w b o vs) (n:Nat):Z7 w b o (vs.take n):=fun j u hu=>by
 rw[KS] at hu;split at hu
 ·exact h j u hu
 ·cases hu
theorem Zbe {b:Nat} {cur:Array Value} {e:TypeId} {fr:Nat×Nat} (h:w.heap[b]?=some (.cells cur e fr)):Z7 w b 0 cur.toList:=fun j u hu=>by
 rw[cell_of_row w b _ cur e fr h];simpa using hu
theorem Qu.drop {S:Nat→Prop} {ds:List D} {vs:List Value} (h:Qu w S ds vs) (n:Nat):Qu w S (ds.drop n) (vs.drop n):=QG.2 ((QG.1 h).drop n)
theorem Qu.take {S:Nat→Prop} {ds:List D} {vs:List Value} (h:Qu w S ds vs) (n:Nat):Qu w S (ds.take n) (vs.take n):=QG.2 ((QG.1 h).take n)
theorem ZgX {t:TypeId} {g:Bool} (hg:JZ P t=some g) {b o off:Nat} {cs:List D} {vs:List Value} (hr:Qu w I cs vs) (h:Z7 w b o vs) {r:AV} (hp:UJ g (P.cellsOf t) off cs=some r) :
  ∃ u,(loadVar t ⟨b,o+off,none⟩).run P w=.ok u w∧Rep Γ w I r u:=by
 unfold UJ at hp;cases g
 ·simp only[Ka,Ki,asD] at hp;obtain⟨d,hd,hp⟩:=Za hp;cases hp;obtain⟨u,hu,h1,h2⟩:=(QG.1 hr).get off d hd;have:=h off u hu;exact⟨u,by simp[loadVar,X5 hg,this],QE.2 ((QZ.one h1).2 h2)⟩
 ·simp only[Kk] at hp;split at hp
  ·rename_i hl;cases hp;obtain⟨u,h1,h2⟩:=Zfk (P:=P) hg (h:=(h.drop off).take (P.cellsOf t)) (by rw[KP,KB,← hr.length];omega) (fun h=>by cases h);simp only[Kk] at h2;subst h2;exact⟨_,h1,QE.2 ⟨_,rfl,by simpa using (hr.drop off).take (P.cellsOf t)⟩⟩
  ·cases hp
variable {F A:Nat→Prop} {hp:Hp}
theorem ZgY {id sz n c i:Nat} {a:Option Addr} {xs:List D} {ex fz:Bool} (h:Zdx w I F A a n c sz xs ex fz) {x:D} (hx:xs[i]?=some x) :
  ∃ g o vs,a=some ⟨g,o,none⟩∧vs.length=sz∧Z7 w g (o+i*sz) vs∧ZH w I x vs:=by
 obtain⟨h1,h2⟩:=h;rcases h2 with ⟨h2,_⟩ | ⟨g,o,cur,e,ha,_,_,_,_,_,_,_,_,hr⟩
 ·have:xs=[]:=Km (by omega);subst this;simp at hx
 ·obtain⟨vs,h3,h4,h5⟩:=Xf.1 hr i x hx;refine⟨g,o,vs,ha,h3,h4,?_⟩;cases ex
  ·exact h5
  ·exact h5.mono ⟨fun b hb=>hb.1,fun _ _=>rfl⟩
theorem ZjC {sz ns n c i:Nat} {a:Option Addr} {xs:List D} {hl:Option Nat} (h:ZcQ w I F a n c sz ns xs hl) {x:D} (hx:xs[i]?=some x) :
  ∃ g vs B,a=some ⟨g,0,none⟩∧vs.length=sz∧Z7 (VH w g hl) g (i*sz) vs∧ZV (VH w g hl) ns B x.cells vs:=by
 obtain⟨h1,h2⟩:=h;rcases h2 with ⟨h2,_⟩ | ⟨g,cur,e,B,ha,_,_,_,_,_,_,hr,_⟩
 ·have:xs=[]:=Km (by omega);subst this;simp at hx
 ·obtain⟨vs,B1,Bn,B2,_,h3,h4,h5,_⟩:=hr.at hx;exact⟨g,vs,Bn,ha,h3,by simpa using h4,h5.cells⟩
theorem Zou {sz i j i' j' : Nat} (hj:j<sz) (aa : j' < sz) (e:i*sz+j=i' * sz+j'):i=i'∧j=j':=by
 have k1:(i*sz+j) / sz=i:=by rw[Nat.mul_comm,Nat.mul_add_div (by omega),Nat.div_eq_of_lt hj];omega
 have k2:(i' * sz+j') / sz=i':=by rw[Nat.mul_comm,Nat.mul_add_div (by omega),Nat.div_eq_of_lt aa];omega
 rw[e,k2] at k1;subst k1;exact⟨rfl,by omega⟩
theorem Xl.away {a:Option Addr} {sz ns i off:Nat} {xs:List D} {lk:Option (Option Nat×Nat×Nat)} (h:Xl Γ w a sz ns xs lk) (aa:off<sz) {x:D} (hx:xs[i]?=some x) (hc:∀ ys,x.cells[off]?≠some (.sl ys)) :
  X0 sz lk≠some (i*sz+off):=by
 cases lk with
 | none=>simp[X0]
 | some q=>
  obtain⟨nm,i',j⟩:=q;obtain⟨h1,h2,h3,_⟩:=h;simp only[X0,ne_eq,Option.some.injEq];intro e;obtain⟨rfl,rfl⟩:=Zou h2 aa e;unfold V8 at h3;rw[hx,Zc] at h3;split at h3
  ·rename_i ys ab;exact hc ys ab
  ·cases h3
theorem Zpu {x:AV} {v:Value} (h:QT Γ w I x v):QT Γ w I (Zdi x) v:=by
 cases x with
 | bbuf _ _=>trivial
 | _=>exact h
theorem ZlY {t:TypeId} {g:Bool} (hg:JZ P t=some g) (ho:Wz Γ w I F A hp) {x r:AV} {v:Value} (h:Rep Γ w I x v) (hp' : Vj hp g (P.cellsOf t) x=some r) :
  ∃ u,(Instr.loadAt t v).run P w=.ok u w∧Rep Γ w I r u:=by
 unfold Vj at hp';split at hp'
 ·rename_i id off;obtain⟨b,hb,rfl⟩:=h;unfold WR at hp';split at hp'
  ·rename_i cs hl;obtain⟨b',cur,e,aa,hw,_,_,hc,_⟩:=ho id _ hl;rw[hb] at aa;cases aa;have ab:=Zbe hw;cases g
   ·simp only[Ka,Ki] at hp';obtain⟨r0,ai,rfl⟩:=Option.map_eq_some_iff.1 hp';obtain⟨u,hu,h1⟩:=hc.get off r0 ai;have:=ab off u hu;exact⟨u,by simp only[Lo] at this;simp[Instr.loadAt,Instr.sureAddr,loadVar,X5 hg,this],(Zpu h1).rep2.rep⟩
   ·simp only[Kk] at hp';split at hp'
    ·cases hp';obtain⟨u,h1,h2⟩:=Zfk (P:=P) hg (h:=(ab.drop off).take (P.cellsOf t)) (by rw[KP,KB,← hc.length];omega) (fun h=>by cases h);simp only[Kk] at h2;subst h2;refine⟨_,by simpa [Instr.loadAt,Instr.sureAddr] using h1,Zb2 ?_⟩;simpa using (hc.drop off).take (P.cellsOf t)
    ·cases hp'
  ·cases hp'
 ·rename_i id sz i off;obtain⟨b,o0,n,c,hb,hi,rfl⟩:=h;unfold V4 at hp';split at hp'
  ·rename_i aj xs ex fz hl;split at hp'
   ·rename_i ae;subst ae;obtain⟨a,n',c',aa,ak⟩:=ho id _ hl;rw[hb] at aa;cases aa;obtain⟨y,hy,hp'⟩:=Za hp';obtain⟨g',o1,vs,ha,h3,h4,h5⟩:=ZgY (id:=id) ak hy;cases ha;unfold Zdj at hp';split at hp'
    ·have:=ZgX (P:=P) (Γ:=Γ) hg h5.cells h4 hp';obtain⟨u,h6,h7⟩:=this;exact⟨u,by simpa [Instr.loadAt,Instr.sureAddr,KI] using h6,h7⟩
    ·cases hp'
   ·cases hp'
  ·rename_i aj ns xs lk hl;split at hp'
   ·rename_i ae;subst ae;cases g
    ·simp only[Ka,Ki] at hp';obtain⟨a,n',c',aa,hd,ad⟩:=ho id _ hl;rw[hb] at aa;cases aa;obtain⟨y,hy,hq⟩:=Za hp';clear hp';obtain⟨g',vs,B,ha,h3,h4,h5⟩:=ZjC hd hy;cases ha;unfold V3 at hq;split at hq
     ·unfold Zfm at hq;split at hq
      ·split at hq
       ·rename_i hc;obtain⟨rfl,rfl⟩:=hc;cases hq;obtain⟨_,_,_,ad⟩:=ad;obtain⟨g2,a2,n2,c2,ha2,h6,h9⟩:=ad _ rfl;cases ha2;exact⟨_,by simp[Instr.loadAt,Instr.sureAddr,loadVar,X5 hg,h9],⟨a2,n2,c2,_,h6,rfl⟩⟩
       ·cases hq
      ·cases hq
     ·rename_i y' ag ah;split at hq
      ·cases hq;obtain⟨u,_,_,_,hu,_,h6⟩:=h5.get ah;have af:off<sz:=by have:=(Kc.1 hu).1;omega
       have:=h4 off u hu;rw[Znv (ad.away af hy fun ys e=>ag ys (by rw[ah] at e;exact Option.some.inj e)) ] at this;have h7:=(h6.plain (S:=I) fun ys e=>ag ys e).2;exact⟨u,by simp[Instr.loadAt,Instr.sureAddr,loadVar,X5 hg,this],QE.2 ((QZ.one (by cases y' <;> simp_all [D.plain,D.one])).2 (J1 h7.1 h7.2))⟩
      ·cases hq
     ·cases hq
    ·simp only[Kk] at hp';cases hp'
   ·cases hp'
  ·cases hp'
 ·rename_i cs;obtain⟨b,o,vs,rfl,hI,ab,hr⟩:=h;obtain⟨u,h6,h7⟩:=ZgX (P:=P) (Γ:=Γ) hg hr ab hp';exact⟨u,by simpa [Instr.loadAt,Instr.sureAddr] using h6,h7⟩
 ·cases hp'
theorem ZjD {off:Nat} {x:AV} {v:Value} {ce:Zb} (h:Rep Γ w I x v) (hp:YJ off x=some ce) :
  ∃ b o r,v=.pointer (some ⟨b,o,none⟩)∧ce = { eff := { val:=r },gone:=[] }∧Rep Γ w I r (.pointer (some ⟨b,o+off,none⟩)):=by
 unfold YJ at hp;split at hp
 ·obtain⟨b,hb,rfl⟩:=h;cases hp;exact⟨b.1,_,_,rfl,rfl,b,hb,rfl⟩
 ·obtain⟨b,o,n,c,hb,hi,rfl⟩:=h;cases hp;exact⟨b,_,_,rfl,rfl,b,o,n,c,hb,hi,by simp only[KI]⟩
 ·obtain⟨b,o,vs,rfl,hI,aa,hr⟩:=h;cases hp;exact⟨b,_,_,rfl,rfl,b,o+off,vs.drop off,rfl,hI,aa.drop off,hr.drop off⟩
 ·cases hp
theorem Zpv {s:TypeId} {f:Nat} {q:Nat×TypeId} (hq:Zas P s f=some q) {x:AV} {v:Value} {ce:Zb} (h:Rep Γ w I x v) (hp:YJ q.1 x=some ce) :
  ∃ u r,(Instr.fieldAt s v f).run P w=.ok u w∧ce = { eff := { val:=r },gone:=[] }∧Rep Γ w I r u:=by
 obtain⟨fs,y,h1,h2,h3,h4,h5⟩:=Zbd hq;obtain⟨b,o,r,rfl,h6,h7⟩:=ZjD h hp;obtain⟨i,hi⟩:=Zct h5;refine⟨_,r,?_,h6,h7⟩;simp[Instr.fieldAt,run_underlying h1,h2,Instr.sureAddr,fieldPlace,h4,Qq hi,h5,YH,h3]
theorem Zpw {t:TypeId} {a:Nat×TypeId} (ha:ZcN P t=some a) (hi:∃ i,P.info? a.2=some i) {x y:AV} {v k:Value} {n:Int} (h:Rep Γ w I x v) (hk:Rep Γ w I y k) (hn:idx y=some n) {ce:Zb}
  (hp:Zg6 x n a.1 (P.cellsOf a.2)=some ce):∃ u r,(Instr.indexAt t v k).run P w=.ok u w∧ce = { eff := { val:=r },gone:=[] }∧Rep Γ w I r u:=by
 obtain⟨kk,rfl⟩:=Yr hn hk;obtain⟨i,hi⟩:=hi;unfold Zg6 at hp;split at hp
 ·rename_i hb;obtain⟨b,o,r,rfl,h6,h7⟩:=ZjD h hp;refine⟨_,r,?_,h6,h7⟩;simp[Instr.indexAt,asIntOf,run_underlying (ZjA ha),Instr.sureAddr,hb.1,hb.2,Qq hi,YH]
 ·cases hp
theorem ZiQ {sz n:Nat} (ho:Wz Γ w I F A hp) {x r:AV} {v:Value} (h:Rep Γ w I x v) (hp' : Qd hp sz n x=some r) :
  ∃ b o m c,v=.slice (some ⟨b,o,none⟩) m c∧n<m∧Rep Γ w I r (.pointer (some ⟨b,o+n*sz,none⟩)):=by
 unfold Qd at hp';split at hp'
 ·rename_i xs;obtain⟨y,hy,hp'⟩:=Za hp';have:=QE.1 h;simp only[QZ,ZH] at this;obtain⟨a,c,hv,hc,h1⟩:=this;simp at hv;subst hv;have ad:n<xs.length:=(Kc.1 hy).1;rcases h1 with h1 | ⟨b,o,af,rfl,hI,h0,hr⟩
  ·subst h1;simp at hy
  ·obtain⟨vs,h3,h4,h5⟩:=Xf.1 hr n y hy;unfold Zov at hp';split at hp'
   ·rename_i ag;cases hp';have:af=sz:=by rw[← h3,h5.length,ag]
    subst this;exact⟨b,o,_,c,rfl,ad,b,_,vs,rfl,hI,h4,h5.cells⟩
   ·cases hp'
 ·rename_i id;obtain⟨a,m,c,af,hb,rfl⟩:=h;unfold Jn at hp';split at hp'
  ·rename_i ae xs ex fz hl;split at hp'
   ·rename_i hc;cases hp';obtain⟨rfl,ad⟩:=hc;obtain⟨a',n',c',aa,ab⟩:=ho id _ hl;rw[hb] at aa;cases aa;obtain⟨y,hy⟩:∃ y,xs[n]?=some y:=⟨_,Kz ad⟩
    obtain⟨g',o1,vs,rfl,h3,h4,h5⟩:=ZgY (id:=id) ab hy;have hm:m=xs.length:=ab.1;exact⟨g',o1,m,c,rfl,by omega,g',o1,m,c,hb,by omega,by simp⟩
   ·cases hp'
  ·rename_i ae ns xs lk hl;split at hp'
   ·rename_i hc;cases hp';obtain⟨rfl,ad⟩:=hc;obtain⟨a',n',c',aa,ab,_⟩:=ho id _ hl;rw[hb] at aa;cases aa;obtain⟨y,hy⟩:∃ y,xs[n]?=some y:=⟨_,Kz ad⟩
    obtain⟨g',vs,B,rfl,h3,h4,h5⟩:=ZjC ab hy;have hm:m=xs.length:=ab.1;exact⟨g',0,m,c,rfl,by omega,g',0,m,c,hb,by omega,by simp⟩
   ·cases hp'
  ·cases hp'
 ·rename_i id off m;obtain⟨a0,m',c,af,a,hb,h1,h2,rfl,h3,h4⟩:=h;unfold UL at hp';split at hp'
  ·rename_i ae xs ex fz hl;split at hp'
   ·rename_i hc;cases hp';obtain⟨rfl,ad⟩:=hc;obtain⟨a',n',c',aa,ab⟩:=ho id _ hl;rw[hb] at aa;cases aa;have hm:m'=xs.length:=ab.1;obtain⟨y,hy⟩:∃ y,xs[off+n]?=some y:=⟨_,Kz (by omega)⟩
    obtain⟨g',o1,vs,rfl,h5,h6,h7⟩:=ZgY (id:=id) ab hy;rcases h4 with h4 | h4
    ·subst h4;refine⟨g',o1+off*af,m,c-off,by simp[YH],ad,g',o1,m',c,hb,by omega,?_⟩;rw[KG];simp[KI]
    ·omega
   ·cases hp'
  ·cases hp'
 ·cases hp'
theorem Zpx {t e:TypeId} (he:Q8 P t=some e) (hi:∃ i,P.info? e=some i) (ho:Wz Γ w I F A hp) {x y r:AV} {v k:Value} {n:Int} (h:Rep Γ w I x v) (hk:Rep Γ w I y k) (hn:idx y=some n)
  (h0:0≤n) (hp' : Qd hp (P.cellsOf e) n.toNat x=some r):∃ u,(Instr.indexAt t v k).run P w=.ok u w∧Rep Γ w I r u:=by
 obtain⟨kk,rfl⟩:=Yr hn hk;obtain⟨i,hi⟩:=hi;obtain⟨b,o,m,c,rfl,ab,hr⟩:=ZiQ ho h hp';have aa : n<(m:Int):=by omega
 exact⟨_,by simp[Instr.indexAt,asIntOf,run_underlying (Qp he),h0,aa,Qq hi,YH],hr⟩
end
end Go.Abs
