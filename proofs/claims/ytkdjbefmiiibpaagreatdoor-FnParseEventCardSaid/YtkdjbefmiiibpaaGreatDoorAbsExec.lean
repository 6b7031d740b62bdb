/- The abstract semantics and the model: operations that turn nothing. Own text. -/
import Derived.Test.YtkdjbefmiiibpaaGreatDoorAbsRep
import Derived.Laws.MakeOwn
import Derived.Laws.StructEq
import Derived.Laws.Concat
import Derived.Laws.Slices
set_option linter.unusedVariables false
set_option linter.unusedSimpArgs false
namespace Go.Abs
open Go
section
variable {P:Program}
theorem Xt {t e:TypeId} (h:VD P t=some e):P.underlying t=some (.slice e):=by
 unfold VD at h;split at h
 ·cases h;assumption
 ·cases h
theorem ZaH {t:TypeId} (h:ZbK P t=true):P.underlying t=some .string:=by
 unfold ZbK at h;split at h
 ·assumption
 ·cases h
theorem Zr0 {t:TypeId} {k:IntKind} (h:Zzk P t=some k):P.underlying t=some (.int k):=by
 unfold Zzk at h;split at h
 ·cases h;assumption
 ·cases h
theorem Zr1 {t:TypeId} {a:Nat×TypeId} (h:ZkE P t=some a):P.underlying t=some (.array a.1 a.2):=by
 unfold ZkE at h;split at h
 ·cases h;assumption
 ·cases h
theorem W0 {t:TypeId} {g:Bool} (h:ZgC P t=some g) (w:World):(isAgg t).run P w=.ok g w:=by
 unfold ZgC at h
 unfold isAgg
 split at h
 ·cases h;rename_i hu;simp[run_underlying hu]
 ·cases h;rename_i hu;simp[run_underlying hu]
 ·cases h;rename_i d h1 h2 hu;simp only[Sem.run_bind,run_underlying hu,Result.andThen_ok]
  cases d<;>first | rfl | (exfalso;exact h1 _ hu) | (exfalso;exact h2 _ _ hu)
 ·cases h
theorem Zao {t:TypeId} {d:TypeDesc} (h:P.underlying t=some d):∃ i,P.info? t=some i:=by
 unfold Program.underlying at h
 cases hi:P.info? t with
 | none=>rw[hi] at h;cases h
 | some i=>exact⟨i,rfl⟩
theorem Xu {t:TypeId} {i:TypeInfo} (h:P.info? t=some i) (w:World):(sizeOf t).run P w=.ok (P.cellsOf t) w:=by
 simp[sizeOf,typeInfo,h,Program.cellsOf]
theorem Zkd {t:TypeId} (h:P.cellsOf t≠0):∃ i,P.info? t=some i:=by
 cases hi:P.info? t with
 | none=>simp[Program.cellsOf,hi] at h
 | some i=>exact⟨i,rfl⟩
theorem Zjy {t:TypeId} {g:Bool} (h:ZgC P t=some g):∃ i,P.info? t=some i:=by
 unfold ZgC at h
 split at h
 ·rename_i hu;exact Zao hu
 ·rename_i hu;exact Zao hu
 ·rename_i hu;exact Zao hu
 ·cases h
theorem Ziw {s:TypeId} {f:Nat} {q:Nat×TypeId} (h:Zhm P s f=some q) :
  ∃ fs x,P.underlying s=some (.struct fs)∧fs[f]?=some x∧x.offset=q.1∧x.type=q.2∧P.cellsOf q.2≠0:=by
 unfold Zhm at h
 split at h
 ·rename_i fs hu
  split at h
  ·rename_i x hx
   split at h
   ·cases h
   ·cases h;exact⟨fs,x,hu,hx,rfl,rfl,by assumption⟩
  ·cases h
 ·cases h
theorem Zky {t:TypeId} {z:Value} (h:Zdo P t=some z):∃ i,P.info? t=some i∧i.zero=some z:=by
 unfold Zdo at h
 split at h
 ·rename_i i hi;exact⟨i,hi,h⟩
 ·cases h
theorem Zgt {t:TypeId} {z:Value} (h:Zdo P t=some z) (w:World):(zeroValue t).run P w=.ok z w:=by
 obtain⟨i,hi,hz⟩:=Zky h
 simp[zeroValue,typeInfo,hi,hz]
theorem WE {t:TypeId} (h:Zaq P t=true):∃ i z,P.info? t=some i∧i.zero=some z∧z.cells.size=i.size∧0<i.size∧P.cellsOf t=i.size∧P.bytesOf t=i.bytes:=by
 unfold Zaq at h
 split at h
 ·rename_i i hi
  split at h
  ·rename_i z hz
   simp at h
   exact⟨i,z,hi,hz,h.1,h.2,by simp[Program.cellsOf,hi],by simp[Program.bytesOf,hi]⟩
  ·cases h
 ·cases h
end
section
variable {P:Program} {Γ:Gh} {w:World} {I:Nat→Prop}
theorem Zmy (v:Value):YA Γ w I (JE v) v:=by
 cases v<;>try exact trivial
 ·exact⟨rfl,by simp[Z2]⟩
 ·exact⟨rfl,by simp[Z2]⟩
 ·exact⟨rfl,_,rfl,rfl⟩
 ·rename_i a
  cases a
  ·rfl
  ·exact trivial
 ·rename_i a n c
  cases a
  ·cases n
   ·cases c
    ·exact⟨none,rfl⟩
    ·exact trivial
   ·exact trivial
  ·exact trivial
 ·rfl
theorem Zr2:∀ (vs:List Value),Zz (YA Γ w I) (vs.map JE) vs
 | []=>trivial
 | v :: vs=>⟨Zmy v,Zr2 vs⟩
theorem Zx0 (v:Value):Rep Γ w I (evC v) v:=by
 cases v with
 | agg cs=>exact ZjF (Zr2 cs.toList)
 | _=>simp only[evC];exact(Zmy _).rep2.rep
def Zdx (Γ:Gh) (w:World) (I:Nat→Prop) (sl:Sl) (a:Act):Prop:=∀ t,Rep Γ w I (gs sl t) (a.tmps.getD t undef)
theorem Zdx.ev {sl:Sl} {a:Act} (h:Zdx Γ w I sl a) {x:Operand} {y:Opd} (hc:Qd x=some y):Rep Γ w I (evO sl y) (a.eval x):=by
 cases x with
 | tmp t=>simp only[Qd] at hc;cases hc;exact h t
 | const v=>simp only[Qd] at hc;cases hc;exact Zx0 v
 | global g=>simp only[Qd] at hc;cases hc
 | func f=>simp only[Qd] at hc;cases hc;exact⟨#[],rfl,trivial⟩
theorem Zdx.evL {sl:Sl} {a:Act} (h:Zdx Γ w I sl a):∀ {xs:List Operand} {ys:List Opd},Q6 Qd xs=some ys→Zz (Rep Γ w I) (evL sl ys) (xs.map a.eval)
 | [],ys,hc=>by simp only[Q6] at hc;cases hc;exact trivial
 | x :: xs,ys,hc=>by
  simp only[Q6] at hc
  obtain⟨y,h1,hc⟩:=Za hc
  obtain⟨ys',h2,hc⟩:=Za hc
  cases hc
  exact⟨h.ev h1,h.evL h2⟩
theorem rep_int {k:IntKind} {n:Int} {v:Value} (h:Rep Γ w I (.d (.int k n)) v):v=.int k n:=by
 have:=Q5.1 h;simpa [Yq,Z2] using this
theorem Zgu {b:Bool} {v:Value} (h:Rep Γ w I (.d (.bool b)) v):v=.bool b:=by
 have:=Q5.1 h;simpa [Yq,Z2] using this
theorem Zhj {s:List UInt8} {v:Value} (h:Rep Γ w I (.d (.str s)) v):∃ t:ByteArray,v=.string t∧t.data.toList=s:=by
 have:=Q5.1 h;simpa [Yq,Z2] using this
theorem Zpc {ds:List D} {v:Value} (h:Rep Γ w I (.d (.agg ds)) v):∃ vs,v=.agg vs∧Yj w I ds vs.toList:=Q5.1 h
theorem ZdZ (k:IntKind) (n:Int):Rep Γ w I (.d (.int k n)) (.int k n):=Q5.2 (by simp[Yq,Z2])
theorem Zzd (b:Bool):Rep Γ w I (.d (.bool b)) (.bool b):=Q5.2 (by simp[Yq,Z2])
theorem ZuH {t:ByteArray} {s:List UInt8} (h:t.data.toList=s):Rep Γ w I (.d (.str s)) (.string t):=Q5.2 (by simp[Yq,Z2,h])
theorem Zae {x:AV} {n:Int} {v:Value} (hi:idx x=some n) (h:Rep Γ w I x v):∃ k,v=.int k n:=by
 unfold idx at hi
 split at hi
 ·cases hi;exact⟨_,rep_int h⟩
 ·cases hi
theorem ZuI {R:AV→Value→Prop} {cs:List AV} {vs:Array Value} (h:Zz R cs vs.toList) (off s:Nat) :
  Zz R ((cs.drop off).take s) (vs.extract off (off+s)).toList:=by
 have:=(h.drop off).take s
 simpa [Array.toList_extract,List.extract_eq_take_drop] using this
theorem ZuJ {t:TypeId} {g:Bool} (hg:ZgC P t=some g) {off:Nat} {x r:AV} {v:Value} (h:Rep Γ w I x v) (hp:Zlt g (P.cellsOf t) off x=some r) :
  ∃ cs u,v=.agg cs∧(part t cs off).run P w=.ok u w∧Rep Γ w I r u:=by
 obtain⟨i,hi⟩:=Zjy hg
 have hs:=Xu hi w
 unfold Zlt at hp
 split at hp
 ·obtain⟨vs,rfl,hr⟩:=Zpc h
  unfold Zfy at hp
  cases g
  ·simp only[Bool.false_eq_true,if_false,asD] at hp
   obtain⟨d,hd,hp⟩:=Za hp
   cases hp
   obtain⟨u,hu,h1,h2⟩:=(Yf.1 hr).get off d hd
   refine⟨vs,u,rfl,?_,Q5.2 ((Yq.one h1).2 h2)⟩
   have hu' : vs[off]?=some u:=by simpa using hu
   simp[part,W0 hg,hu']
  ·simp only[if_true] at hp
   split at hp
   ·cases hp
    refine⟨vs,.agg (vs.extract off (off+P.cellsOf t)),rfl,by simp[part,W0 hg,hs],Q5.2 ⟨_,rfl,?_⟩⟩
    rw[Yf] at hr ⊢
    have:=(hr.drop off).take (P.cellsOf t)
    simpa [Array.toList_extract,List.extract_eq_take_drop] using this
   ·cases hp
 ·obtain⟨vs,rfl,hr⟩:=h
  cases g
  ·simp only[Bool.false_eq_true,if_false] at hp
   obtain⟨u,hu,h1⟩:=hr.get off r hp
   have hu' : vs[off]?=some u:=by simpa using hu
   exact⟨vs,u,rfl,by simp[part,W0 hg,hu'],h1.rep2.rep⟩
  ·simp only[if_true] at hp
   split at hp
   ·cases hp
    exact⟨vs,.agg (vs.extract off (off+P.cellsOf t)),rfl,by simp[part,W0 hg,hs],ZjF (ZuI (hr.mono fun _ _ h=>h.repB) _ _)⟩
   ·cases hp
 ·cases hp
theorem JT (b o n:Nat):(⟨b,o,none⟩:Addr).add n=⟨b,o+n,none⟩:=by unfold Addr.add;split<;>simp_all
theorem Znz {t:TypeId} {g:Bool} (hg:ZgC P t=some g) {b o:Nat} {vs:List Value} (h:Q4 w b o vs) (hl:vs.length=P.cellsOf t) (h1:g=false→∃ u,vs[0]?=some u) :
  ∃ u,(loadVar t ⟨b,o,none⟩).run P w=.ok u w∧(if g then u=.agg vs.toArray else vs[0]?=some u):=by
 obtain⟨i,hi⟩:=Zjy hg
 cases g
 ·obtain⟨u,hu⟩:=h1 rfl
  have:=h 0 u hu
  exact⟨u,by simp[loadVar,W0 hg,show w.cell? ⟨b,o,none⟩=some u from by simpa using this],by simpa using hu⟩
 ·refine⟨.agg vs.toArray,?_,by simp⟩
  have hc:(loadCells ⟨b,o,none⟩ vs.length).run P w=.ok vs.toArray w:=run_loadCells_list (P:=P) w _ vs fun j u hu=>by
   rw[JT];exact h j u hu
  rw[hl] at hc
  simp[loadVar,W0 hg,Xu hi w,hc]
def ZbH (Γ:Gh) (w:World) (I F A:Nat→Prop) (hp:Hp):Prop:=∀ id o,lkp hp id=some o→W1 Γ w I F A id o
theorem Q4.drop {b o:Nat} {vs:List Value} (h:Q4 w b o vs) (n:Nat):Q4 w b (o+n) (vs.drop n):=fun j u hu=>by
 have:=h (n+j) u (by simpa [List.getElem?_drop] using hu)
 simpa [Nat.add_assoc] using this
theorem Q4.take {b o:Nat} {vs:List Value} (h:Q4 w b o vs) (n:Nat):Q4 w b o (vs.take n):=fun j u hu=>by
 rw[List.getElem?_take] at hu
 split at hu
 ·exact h j u hu
 ·cases hu
theorem Zix {b:Nat} {cur:Array Value} {e:TypeId} {fr:Nat×Nat} (h:w.heap[b]?=some (.cells cur e fr)):Q4 w b 0 cur.toList:=fun j u hu=>by
 rw[cell_of_row w b _ cur e fr h];simpa using hu
theorem Yj.drop {S:Nat→Prop} {ds:List D} {vs:List Value} (h:Yj w S ds vs) (n:Nat):Yj w S (ds.drop n) (vs.drop n):=Yf.2 ((Yf.1 h).drop n)
theorem Yj.take {S:Nat→Prop} {ds:List D} {vs:List Value} (h:Yj w S ds vs) (n:Nat):Yj w S (ds.take n) (vs.take n):=Yf.2 ((Yf.1 h).take n)
theorem Zpd {t:TypeId} {g:Bool} (hg:ZgC P t=some g) {b o off:Nat} {cs:List D} {vs:List Value} (hr:Yj w I cs vs) (h:Q4 w b o vs) {r:AV} (hp:Zfy g (P.cellsOf t) off cs=some r) :
  ∃ u,(loadVar t ⟨b,o+off,none⟩).run P w=.ok u w∧Rep Γ w I r u:=by
 unfold Zfy at hp
 cases g
 ·simp only[Bool.false_eq_true,if_false,asD] at hp
  obtain⟨d,hd,hp⟩:=Za hp
  cases hp
  obtain⟨u,hu,h1,h2⟩:=(Yf.1 hr).get off d hd
  have:=h off u hu
  exact⟨u,by simp[loadVar,W0 hg,this],Q5.2 ((Yq.one h1).2 h2)⟩
 ·simp only[if_true] at hp
  split at hp
  ·rename_i hl
   cases hp
   obtain⟨u,h1,h2⟩:=Znz (P:=P) hg (h:=(h.drop off).take (P.cellsOf t)) (by rw[List.length_take,List.length_drop,← hr.length];omega) (fun h=>by cases h)
   simp only[if_true] at h2
   subst h2
   exact⟨_,h1,Q5.2 ⟨_,rfl,by simpa using (hr.drop off).take (P.cellsOf t)⟩⟩
  ·cases hp
variable {F A:Nat→Prop} {hp:Hp}
theorem Zpe {id sz n c i:Nat} {a:Option Addr} {xs:List D} {ex fz:Bool} (h:ZgI w I F A a n c sz xs ex fz) {x:D} (hx:xs[i]?=some x) :
  ∃ g vs,a=some ⟨g,0,none⟩∧vs.length=sz∧Q4 w g (i*sz) vs∧Z2 w I x vs:=by
 obtain⟨h1,h2⟩:=h
 rcases h2 with ⟨h2,_⟩ | ⟨g,cur,e,ha,_,_,_,_,_,_,_,_,hr⟩
 ·have:xs=[]:=List.eq_nil_of_length_eq_zero (by omega)
  subst this;simp at hx
 ·obtain⟨vs,h3,h4,h5⟩:=YZ.1 hr i x hx
  refine⟨g,vs,ha,h3,by simpa using h4,?_⟩
  cases ex
  ·exact h5
  ·exact h5.mono ⟨fun b hb=>hb.1,fun _ _=>rfl⟩
theorem ZuK {ns:Nat} {y:D} {v:Value} (h:UC w I F A ns y v) (hy:∀ ys,y≠.sl ys):y.plain=true∧Z2 w I y [v]:=by
 cases y<;>first | exact h | exact absurd rfl (hy _)
theorem ZdN {sz ns n c i:Nat} {a:Option Addr} {xs:List D} (h:Zec w I F A a n c sz ns xs) {x:D} (hx:xs[i]?=some x) :
  ∃ g vs,a=some ⟨g,0,none⟩∧vs.length=sz∧Q4 w g (i*sz) vs∧Zz (UC w I F A ns) x.cells vs:=by
 obtain⟨h1,h2⟩:=h
 rcases h2 with ⟨h2,_⟩ | ⟨g,cur,e,ha,_,_,_,_,_,_,_,_,hr,_⟩
 ·have:xs=[]:=List.eq_nil_of_length_eq_zero (by omega)
  subst this;simp at hx
 ·obtain⟨vs,h3,h4,h5⟩:=hr i x hx
  exact⟨g,vs,ha,h3,h4,h5⟩
theorem Zze {x:AV} {v:Value} (h:YA Γ w I x v):YA Γ w I (Zlr x) v:=by
 cases x with
 | bbuf _ _=>trivial
 | _=>exact h
theorem ZuL {t:TypeId} {g:Bool} (hg:ZgC P t=some g) (ho:ZbH Γ w I F A hp) {x r:AV} {v:Value} (h:Rep Γ w I x v) (hp' : JU hp g (P.cellsOf t) x=some r) :
  ∃ u,(Instr.loadAt t v).run P w=.ok u w∧Rep Γ w I r u:=by
 unfold JU at hp'
 split at hp'
 ·rename_i id off
  obtain⟨b,hb,rfl⟩:=h
  unfold Zck at hp'
  split at hp'
  ·rename_i cs hl
   obtain⟨b',cur,e,hb',hw,_,_,hc,_⟩:=ho id _ hl
   rw[hb] at hb';cases hb'
   have hat:=Zix hw
   cases g
   ·simp only[Bool.false_eq_true,if_false] at hp'
    obtain⟨r0,hr0,rfl⟩:=Option.map_eq_some_iff.1 hp'
    obtain⟨u,hu,h1⟩:=hc.get off r0 hr0
    have:=hat off u hu
    exact⟨u,by simp only[Nat.zero_add] at this;simp[Instr.loadAt,Instr.sureAddr,loadVar,W0 hg,this],(Zze h1).rep2.rep⟩
   ·simp only[if_true] at hp'
    split at hp'
    ·cases hp'
     obtain⟨u,h1,h2⟩:=Znz (P:=P) hg (h:=(hat.drop off).take (P.cellsOf t)) (by rw[List.length_take,List.length_drop,← hc.length];omega) (fun h=>by cases h)
     simp only[if_true] at h2
     subst h2
     refine⟨_,by simpa [Instr.loadAt,Instr.sureAddr] using h1,ZjF ?_⟩
     simpa using (hc.drop off).take (P.cellsOf t)
    ·cases hp'
  ·cases hp'
 ·rename_i id sz i off
  obtain⟨b,n,c,hb,hi,rfl⟩:=h
  unfold Zcl at hp'
  split at hp'
  ·rename_i sz' xs ex fz hl
   split at hp'
   ·rename_i hsz
    subst hsz
    obtain⟨a,n',c',hb',hro⟩:=ho id _ hl
    rw[hb] at hb';cases hb'
    obtain⟨y,hy,hp'⟩:=Za hp'
    obtain⟨g',vs,ha,h3,h4,h5⟩:=Zpe (id:=id) hro hy
    cases ha
    unfold Zls at hp'
    split at hp'
    ·have:=Zpd (P:=P) (Γ:=Γ) hg h5.cells h4 hp'
     obtain⟨u,h6,h7⟩:=this
     exact⟨u,by simpa [Instr.loadAt,Instr.sureAddr] using h6,h7⟩
    ·cases hp'
   ·cases hp'
  ·rename_i sz' ns xs lk hl
   split at hp'
   ·rename_i hsz
    subst hsz
    cases g
    ·simp only[Bool.false_eq_true,if_false] at hp'
     obtain⟨a,n',c',hb',hd,hlk⟩:=ho id _ hl
     rw[hb] at hb';cases hb'
     obtain⟨y,hy,hq⟩:=Za hp'
     clear hp'
     obtain⟨g',vs,ha,h3,h4,h5⟩:=ZdN hd hy
     cases ha
     unfold Zgw at hq
     split at hq
     ·unfold ZuM at hq
      split at hq
      ·split at hq
       ·rename_i hc
        obtain⟨rfl,rfl⟩:=hc
        cases hq
        obtain⟨g2,a2,n2,c2,s2,ha2,h6,h7,h8,h9⟩:=hlk
        cases ha2
        exact⟨_,by simp[Instr.loadAt,Instr.sureAddr,loadVar,W0 hg,h9],⟨⟨_,hb⟩,a2,n2,c2,s2,h6,rfl⟩⟩
       ·cases hq
      ·cases hq
     ·rename_i y' hne hy'
      split at hq
      ·cases hq
       obtain⟨u,hu,h6⟩:=h5.get off y' hy'
       have:=h4 off u hu
       have h7:=ZuK h6 fun ys e=>hne ys e
       exact⟨u,by simp[Instr.loadAt,Instr.sureAddr,loadVar,W0 hg,this],Q5.2 ((Yq.one (by cases y' <;> simp_all [D.plain,D.one])).2 h7.2)⟩
      ·cases hq
     ·cases hq
    ·simp only[if_true] at hp'
     cases hp'
   ·cases hp'
  ·cases hp'
 ·rename_i cs
  obtain⟨b,o,vs,rfl,hI,hat,hr⟩:=h
  obtain⟨u,h6,h7⟩:=Zpd (P:=P) (Γ:=Γ) hg hr hat hp'
  exact⟨u,by simpa [Instr.loadAt,Instr.sureAddr] using h6,h7⟩
 ·cases hp'
theorem Zr3 {off:Nat} {x:AV} {v:Value} {ce:Zc} (h:Rep Γ w I x v) (hp:WM off x=some ce) :
  ∃ b o r,v=.pointer (some ⟨b,o,none⟩)∧ce = { eff := { val:=r },gone:=[] }∧Rep Γ w I r (.pointer (some ⟨b,o+off,none⟩)):=by
 unfold WM at hp
 split at hp
 ·obtain⟨b,hb,rfl⟩:=h
  cases hp
  exact⟨b.1,_,_,rfl,rfl,b,hb,rfl⟩
 ·obtain⟨b,n,c,hb,hi,rfl⟩:=h
  cases hp
  exact⟨b,_,_,rfl,rfl,b,n,c,hb,hi,by rw[Nat.add_assoc]⟩
 ·obtain⟨b,o,vs,rfl,hI,hat,hr⟩:=h
  cases hp
  exact⟨b,_,_,rfl,rfl,b,o+off,vs.drop off,rfl,hI,hat.drop off,hr.drop off⟩
 ·cases hp
theorem Zzf {s:TypeId} {f:Nat} {q:Nat×TypeId} (hq:Zhm P s f=some q) {x:AV} {v:Value} {ce:Zc} (h:Rep Γ w I x v) (hp:WM q.1 x=some ce) :
  ∃ u r,(Instr.fieldAt s v f).run P w=.ok u w∧ce = { eff := { val:=r },gone:=[] }∧Rep Γ w I r u:=by
 obtain⟨fs,y,h1,h2,h3,h4,h5⟩:=Ziw hq
 obtain⟨b,o,r,rfl,h6,h7⟩:=Zr3 h hp
 obtain⟨i,hi⟩:=Zkd h5
 refine⟨_,r,?_,h6,h7⟩
 simp[Instr.fieldAt,run_underlying h1,h2,Instr.sureAddr,fieldPlace,h4,Xu hi,h5,JT,h3]
theorem Zzg {t:TypeId} {a:Nat×TypeId} (ha:ZkE P t=some a) (hi:∃ i,P.info? a.2=some i) {x y:AV} {v k:Value} {n:Int} (h:Rep Γ w I x v) (hk:Rep Γ w I y k) (hn:idx y=some n) {ce:Zc}
  (hp:ZnB x n a.1 (P.cellsOf a.2)=some ce):∃ u r,(Instr.indexAt t v k).run P w=.ok u w∧ce = { eff := { val:=r },gone:=[] }∧Rep Γ w I r u:=by
 obtain⟨kk,rfl⟩:=Zae hn hk
 obtain⟨i,hi⟩:=hi
 unfold ZnB at hp
 split at hp
 ·rename_i hb
  obtain⟨b,o,r,rfl,h6,h7⟩:=Zr3 h hp
  refine⟨_,r,?_,h6,h7⟩
  simp[Instr.indexAt,asIntOf,run_underlying (Zr1 ha),Instr.sureAddr,hb.1,hb.2,Xu hi,JT]
 ·cases hp
theorem ZqT {sz n:Nat} (ho:ZbH Γ w I F A hp) {x r:AV} {v:Value} (h:Rep Γ w I x v) (hp' : QW hp sz n x=some r) :
  ∃ b o m c,v=.slice (some ⟨b,o,none⟩) m c∧n<m∧Rep Γ w I r (.pointer (some ⟨b,o+n*sz,none⟩)):=by
 unfold QW at hp'
 split at hp'
 ·rename_i xs
  obtain⟨y,hy,hp'⟩:=Za hp'
  have:=Q5.1 h
  simp only[Yq,Z2] at this
  obtain⟨a,c,hv,hc,h1⟩:=this
  simp at hv
  subst hv
  have hlt:n<xs.length:=(List.getElem?_eq_some_iff.1 hy).1
  rcases h1 with h1 | ⟨b,o,sz',rfl,hI,h0,hr⟩
  ·subst h1;simp at hy
  ·obtain⟨vs,h3,h4,h5⟩:=YZ.1 hr n y hy
   unfold Zx2 at hp'
   split at hp'
   ·rename_i hlen
    cases hp'
    have:sz'=sz:=by rw[← h3,h5.length,hlen]
    subst this
    exact⟨b,o,_,c,rfl,hlt,b,_,vs,rfl,hI,h4,h5.cells⟩
   ·cases hp'
 ·rename_i id
  obtain⟨a,m,c,sz',hb,rfl⟩:=h
  unfold Zfd at hp'
  split at hp'
  ·rename_i sz'' xs ex fz hl
   split at hp'
   ·rename_i hc
    cases hp'
    obtain⟨rfl,hlt⟩:=hc
    obtain⟨a',n',c',hb',hro⟩:=ho id _ hl
    rw[hb] at hb';cases hb'
    obtain⟨y,hy⟩:∃ y,xs[n]?=some y:=⟨_,List.getElem?_eq_getElem hlt⟩
    obtain⟨g',vs,rfl,h3,h4,h5⟩:=Zpe (id:=id) hro hy
    have hm:m=xs.length:=hro.1
    exact⟨g',0,m,c,rfl,by omega,g',m,c,hb,by omega,by simp⟩
   ·cases hp'
  ·rename_i sz'' ns xs lk hl
   split at hp'
   ·rename_i hc
    cases hp'
    obtain⟨rfl,hlt⟩:=hc
    obtain⟨a',n',c',hb',hro,_⟩:=ho id _ hl
    rw[hb] at hb';cases hb'
    obtain⟨y,hy⟩:∃ y,xs[n]?=some y:=⟨_,List.getElem?_eq_getElem hlt⟩
    obtain⟨g',vs,rfl,h3,h4,h5⟩:=ZdN hro hy
    have hm:m=xs.length:=hro.1
    exact⟨g',0,m,c,rfl,by omega,g',m,c,hb,by omega,by simp⟩
   ·cases hp'
  ·cases hp'
 ·rename_i id off m
  obtain⟨a0,m',c,sz',a,hb,h1,h2,rfl,h3,h4⟩:=h
  unfold Zd1 at hp'
  split at hp'
  ·rename_i sz'' xs ex fz hl
   split at hp'
   ·rename_i hc
    cases hp'
    obtain⟨rfl,hlt⟩:=hc
    obtain⟨a',n',c',hb',hro⟩:=ho id _ hl
    rw[hb] at hb';cases hb'
    have hm:m'=xs.length:=hro.1
    obtain⟨y,hy⟩:∃ y,xs[off+n]?=some y:=⟨_,List.getElem?_eq_getElem (by omega)⟩
    obtain⟨g',vs,rfl,h5,h6,h7⟩:=Zpe (id:=id) hro hy
    rcases h4 with h4 | h4
    ·subst h4
     refine⟨g',off*sz',m,c-off,by simp[JT],hlt,g',m',c,hb,by omega,?_⟩
     rw[Nat.add_mul];simp
    ·omega
   ·cases hp'
  ·cases hp'
 ·cases hp'
theorem Zzh {t e:TypeId} (he:VD P t=some e) (hi:∃ i,P.info? e=some i) (ho:ZbH Γ w I F A hp) {x y r:AV} {v k:Value} {n:Int} (h:Rep Γ w I x v) (hk:Rep Γ w I y k) (hn:idx y=some n)
  (h0:0≤n) (hp' : QW hp (P.cellsOf e) n.toNat x=some r):∃ u,(Instr.indexAt t v k).run P w=.ok u w∧Rep Γ w I r u:=by
 obtain⟨kk,rfl⟩:=Zae hn hk
 obtain⟨i,hi⟩:=hi
 obtain⟨b,o,m,c,rfl,hlt,hr⟩:=ZqT ho h hp'
 have hlt' : n<(m:Int):=by omega
 exact⟨_,by simp[Instr.indexAt,asIntOf,run_underlying (Xt he),h0,hlt',Xu hi,JT],hr⟩
end
end Go.Abs
