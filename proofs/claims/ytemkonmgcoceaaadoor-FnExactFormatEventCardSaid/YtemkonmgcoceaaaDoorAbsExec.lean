/- The abstract semantics and the model: operations that turn nothing. Own text. -/
import Derived.Test.YtemkonmgcoceaaaDoorAbsRep
import Derived.Laws.MakeOwn
import Derived.Laws.StructEq
import Derived.Laws.Concat
import Derived.Laws.Slices
set_option linter.unusedVariables false
set_option linter.unusedSimpArgs false
namespace Go.Abs
open Go
section
variable {P:Program}
theorem Qy {t e:TypeId} (h:Xr P t=some e):P.underlying t=some (.slice e):=by
 unfold Xr at h;split at h
 ·cases h;assumption
 ·cases h
theorem Vx {t:TypeId} (h:Wo P t=true):P.underlying t=some .string:=by
 unfold Wo at h;split at h
 ·assumption
 ·cases h
theorem Ziw {t:TypeId} {k:IntKind} (h:Zoh P t=some k):P.underlying t=some (.int k):=by
 unfold Zoh at h;split at h
 ·cases h;assumption
 ·cases h
theorem Zix {t:TypeId} {a:Nat×TypeId} (h:ZcT P t=some a):P.underlying t=some (.array a.1 a.2):=by
 unfold ZcT at h;split at h
 ·cases h;assumption
 ·cases h
theorem Ye {t:TypeId} {g:Bool} (h:J9 P t=some g) (w:World):(isAgg t).run P w=.ok g w:=by
 unfold J9 at h
 unfold isAgg
 split at h
 ·cases h;rename_i hu;simp[run_underlying hu]
 ·cases h;rename_i hu;simp[run_underlying hu]
 ·cases h;rename_i d h1 h2 hu;simp only[Sem.run_bind,run_underlying hu,Result.andThen_ok]
  cases d<;>first | rfl | (exfalso;exact h1 _ hu) | (exfalso;exact h2 _ _ hu)
 ·cases h
theorem Vn {t:TypeId} {d:TypeDesc} (h:P.underlying t=some d):∃ i,P.info? t=some i:=by
 unfold Program.underlying at h
 cases hi:P.info? t with
 | none=>rw[hi] at h;cases h
 | some i=>exact⟨i,rfl⟩
theorem Qz {t:TypeId} {i:TypeInfo} (h:P.info? t=some i) (w:World):(sizeOf t).run P w=.ok (P.cellsOf t) w:=by
 simp[sizeOf,typeInfo,h,Program.cellsOf]
theorem Zct {t:TypeId} (h:P.cellsOf t≠0):∃ i,P.info? t=some i:=by
 cases hi:P.info? t with
 | none=>simp[Program.cellsOf,hi] at h
 | some i=>exact⟨i,rfl⟩
theorem ZbU {t:TypeId} {g:Bool} (h:J9 P t=some g):∃ i,P.info? t=some i:=by
 unfold J9 at h
 split at h
 ·rename_i hu;exact Vn hu
 ·rename_i hu;exact Vn hu
 ·rename_i hu;exact Vn hu
 ·cases h
theorem Zbp {s:TypeId} {f:Nat} {q:Nat×TypeId} (h:ZaB P s f=some q) :
  ∃ fs x,P.underlying s=some (.struct fs)∧fs[f]?=some x∧x.offset=q.1∧x.type=q.2∧P.cellsOf q.2≠0:=by
 unfold ZaB at h
 split at h
 ·rename_i fs hu
  split at h
  ·rename_i x hx
   split at h
   ·cases h
   ·cases h;exact⟨fs,x,hu,hx,rfl,rfl,by assumption⟩
  ·cases h
 ·cases h
theorem ZcL {t:TypeId} {z:Value} (h:W5 P t=some z):∃ i,P.info? t=some i∧i.zero=some z:=by
 unfold W5 at h
 split at h
 ·rename_i i hi;exact⟨i,hi,h⟩
 ·cases h
theorem JZ {t:TypeId} {z:Value} (h:W5 P t=some z) (w:World):(zeroValue t).run P w=.ok z w:=by
 obtain⟨i,hi,hz⟩:=ZcL h
 simp[zeroValue,typeInfo,hi,hz]
theorem X1 {t:TypeId} (h:Vp P t=true):∃ i z,P.info? t=some i∧i.zero=some z∧z.cells.size=i.size∧0<i.size∧P.cellsOf t=i.size∧P.bytesOf t=i.bytes:=by
 unfold Vp at h
 split at h
 ·rename_i i hi
  split at h
  ·rename_i z hz
   simp at h
   exact⟨i,z,hi,hz,h.1,h.2,by simp[Program.cellsOf,hi],by simp[Program.bytesOf,hi]⟩
  ·cases h
 ·cases h
end
section
variable {P:Program} {Γ:Gh} {w:World} {I:Nat→Prop}
theorem Zep (v:Value):Q0 Γ w I (YY v) v:=by
 cases v<;>try exact trivial
 ·exact⟨rfl,by simp[ZD]⟩
 ·exact⟨rfl,by simp[ZD]⟩
 ·exact⟨rfl,_,rfl,rfl⟩
 ·rename_i a
  cases a
  ·rfl
  ·exact trivial
 ·rename_i a n c
  cases a
  ·cases n
   ·cases c
    ·exact⟨none,rfl⟩
    ·exact trivial
   ·exact trivial
  ·exact trivial
 ·rfl
theorem Ziy:∀ (vs:List Value),Zm (Q0 Γ w I) (vs.map YY) vs
 | []=>trivial
 | v :: vs=>⟨Zep v,Ziy vs⟩
theorem Zna (v:Value):Rep Γ w I (evC v) v:=by
 cases v with
 | agg cs=>exact ZbZ (Ziy cs.toList)
 | _=>simp only[evC];exact(Zep _).rep2.rep
def Uc (Γ:Gh) (w:World) (I:Nat→Prop) (sl:Sl) (a:Act):Prop:=∀ t,Rep Γ w I (gs sl t) (a.tmps.getD t undef)
theorem Uc.ev {sl:Sl} {a:Act} (h:Uc Γ w I sl a) {x:Operand} {y:Opd} (hc:ZL x=some y):Rep Γ w I (evO sl y) (a.eval x):=by
 cases x with
 | tmp t=>simp only[ZL] at hc;cases hc;exact h t
 | const v=>simp only[ZL] at hc;cases hc;exact Zna v
 | global g=>simp only[ZL] at hc;cases hc
 | func f=>simp only[ZL] at hc;cases hc;exact⟨#[],rfl,trivial⟩
theorem Uc.evL {sl:Sl} {a:Act} (h:Uc Γ w I sl a):∀ {xs:List Operand} {ys:List Opd},Qh ZL xs=some ys→Zm (Rep Γ w I) (evL sl ys) (xs.map a.eval)
 | [],ys,hc=>by simp only[Qh] at hc;cases hc;exact trivial
 | x :: xs,ys,hc=>by
  simp only[Qh] at hc
  obtain⟨y,h1,hc⟩:=Za hc
  obtain⟨ys',h2,hc⟩:=Za hc
  cases hc
  exact⟨h.ev h1,h.evL h2⟩
theorem Ud {k:IntKind} {n:Int} {v:Value} (h:Rep Γ w I (.d (.int k n)) v):v=.int k n:=by
 have:=Z9.1 h;simpa [QD,ZD] using this
theorem J0 {b:Bool} {v:Value} (h:Rep Γ w I (.d (.bool b)) v):v=.bool b:=by
 have:=Z9.1 h;simpa [QD,ZD] using this
theorem Zay {s:List UInt8} {v:Value} (h:Rep Γ w I (.d (.str s)) v):∃ t:ByteArray,v=.string t∧t.data.toList=s:=by
 have:=Z9.1 h;simpa [QD,ZD] using this
theorem ZgL {ds:List D} {v:Value} (h:Rep Γ w I (.d (.agg ds)) v):∃ vs,v=.agg vs∧QA w I ds vs.toList:=Z9.1 h
theorem UK (k:IntKind) (n:Int):Rep Γ w I (.d (.int k n)) (.int k n):=Z9.2 (by simp[QD,ZD])
theorem Zn9 (b:Bool):Rep Γ w I (.d (.bool b)) (.bool b):=Z9.2 (by simp[QD,ZD])
theorem ZkQ {t:ByteArray} {s:List UInt8} (h:t.data.toList=s):Rep Γ w I (.d (.str s)) (.string t):=Z9.2 (by simp[QD,ZD,h])
theorem Vf {x:AV} {n:Int} {v:Value} (hi:idx x=some n) (h:Rep Γ w I x v):∃ k,v=.int k n:=by
 unfold idx at hi
 split at hi
 ·cases hi;exact⟨_,Ud h⟩
 ·cases hi
theorem ZkR {R:AV→Value→Prop} {cs:List AV} {vs:Array Value} (h:Zm R cs vs.toList) (off s:Nat) :
  Zm R ((cs.drop off).take s) (vs.extract off (off+s)).toList:=by
 have:=(h.drop off).take s
 simpa [Array.toList_extract,List.extract_eq_take_drop] using this
theorem ZkS {t:TypeId} {g:Bool} (hg:J9 P t=some g) {off:Nat} {x r:AV} {v:Value} (h:Rep Γ w I x v) (hp:ZdF g (P.cellsOf t) off x=some r) :
  ∃ cs u,v=.agg cs∧(part t cs off).run P w=.ok u w∧Rep Γ w I r u:=by
 obtain⟨i,hi⟩:=ZbU hg
 have hs:=Qz hi w
 unfold ZdF at hp
 split at hp
 ·obtain⟨vs,rfl,hr⟩:=ZgL h
  unfold Jv at hp
  cases g
  ·simp only[Bool.false_eq_true,if_false,asD] at hp
   obtain⟨d,hd,hp⟩:=Za hp
   cases hp
   obtain⟨u,hu,h1,h2⟩:=(Qr.1 hr).get off d hd
   refine⟨vs,u,rfl,?_,Z9.2 ((QD.one h1).2 h2)⟩
   have hu' : vs[off]?=some u:=by simpa using hu
   simp[part,Ye hg,hu']
  ·simp only[if_true] at hp
   split at hp
   ·cases hp
    refine⟨vs,.agg (vs.extract off (off+P.cellsOf t)),rfl,by simp[part,Ye hg,hs],Z9.2 ⟨_,rfl,?_⟩⟩
    rw[Qr] at hr ⊢
    have:=(hr.drop off).take (P.cellsOf t)
    simpa [Array.toList_extract,List.extract_eq_take_drop] using this
   ·cases hp
 ·obtain⟨vs,rfl,hr⟩:=h
  cases g
  ·simp only[Bool.false_eq_true,if_false] at hp
   obtain⟨u,hu,h1⟩:=hr.get off r hp
   have hu' : vs[off]?=some u:=by simpa using hu
   exact⟨vs,u,rfl,by simp[part,Ye hg,hu'],h1.rep2.rep⟩
  ·simp only[if_true] at hp
   split at hp
   ·cases hp
    exact⟨vs,.agg (vs.extract off (off+P.cellsOf t)),rfl,by simp[part,Ye hg,hs],ZbZ (ZkR (hr.mono fun _ _ h=>h.repB) _ _)⟩
   ·cases hp
 ·cases hp
theorem Y8 (b o n:Nat):(⟨b,o,none⟩:Addr).add n=⟨b,o+n,none⟩:=by unfold Addr.add;split<;>simp_all
theorem Zfg {t:TypeId} {g:Bool} (hg:J9 P t=some g) {b o:Nat} {vs:List Value} (h:Qf w b o vs) (hl:vs.length=P.cellsOf t) (h1:g=false→∃ u,vs[0]?=some u) :
  ∃ u,(loadVar t ⟨b,o,none⟩).run P w=.ok u w∧(if g then u=.agg vs.toArray else vs[0]?=some u):=by
 obtain⟨i,hi⟩:=ZbU hg
 cases g
 ·obtain⟨u,hu⟩:=h1 rfl
  have:=h 0 u hu
  exact⟨u,by simp[loadVar,Ye hg,show w.cell? ⟨b,o,none⟩=some u from by simpa using this],by simpa using hu⟩
 ·refine⟨.agg vs.toArray,?_,by simp⟩
  have hc:(loadCells ⟨b,o,none⟩ vs.length).run P w=.ok vs.toArray w:=run_loadCells_list (P:=P) w _ vs fun j u hu=>by
   rw[Y8];exact h j u hu
  rw[hl] at hc
  simp[loadVar,Ye hg,Qz hi w,hc]
def Wl (Γ:Gh) (w:World) (I F A:Nat→Prop) (hp:Hp):Prop:=∀ id o,lkp hp id=some o→Yg Γ w I F A id o
theorem Qf.drop {b o:Nat} {vs:List Value} (h:Qf w b o vs) (n:Nat):Qf w b (o+n) (vs.drop n):=fun j u hu=>by
 have:=h (n+j) u (by simpa [List.getElem?_drop] using hu)
 simpa [Nat.add_assoc] using this
theorem Qf.take {b o:Nat} {vs:List Value} (h:Qf w b o vs) (n:Nat):Qf w b o (vs.take n):=fun j u hu=>by
 rw[List.getElem?_take] at hu
 split at hu
 ·exact h j u hu
 ·cases hu
theorem Zbq {b:Nat} {cur:Array Value} {e:TypeId} {fr:Nat×Nat} (h:w.heap[b]?=some (.cells cur e fr)):Qf w b 0 cur.toList:=fun j u hu=>by
 rw[cell_of_row w b _ cur e fr h];simpa using hu
theorem QA.drop {S:Nat→Prop} {ds:List D} {vs:List Value} (h:QA w S ds vs) (n:Nat):QA w S (ds.drop n) (vs.drop n):=Qr.2 ((Qr.1 h).drop n)
theorem QA.take {S:Nat→Prop} {ds:List D} {vs:List Value} (h:QA w S ds vs) (n:Nat):QA w S (ds.take n) (vs.take n):=Qr.2 ((Qr.1 h).take n)
theorem ZgM {t:TypeId} {g:Bool} (hg:J9 P t=some g) {b o off:Nat} {cs:List D} {vs:List Value} (hr:QA w I cs vs) (h:Qf w b o vs) {r:AV} (hp:Jv g (P.cellsOf t) off cs=some r) :
  ∃ u,(loadVar t ⟨b,o+off,none⟩).run P w=.ok u w∧Rep Γ w I r u:=by
 unfold Jv at hp
 cases g
 ·simp only[Bool.false_eq_true,if_false,asD] at hp
  obtain⟨d,hd,hp⟩:=Za hp
  cases hp
  obtain⟨u,hu,h1,h2⟩:=(Qr.1 hr).get off d hd
  have:=h off u hu
  exact⟨u,by simp[loadVar,Ye hg,this],Z9.2 ((QD.one h1).2 h2)⟩
 ·simp only[if_true] at hp
  split at hp
  ·rename_i hl
   cases hp
   obtain⟨u,h1,h2⟩:=Zfg (P:=P) hg (h:=(h.drop off).take (P.cellsOf t)) (by rw[List.length_take,List.length_drop,← hr.length];omega) (fun h=>by cases h)
   simp only[if_true] at h2
   subst h2
   exact⟨_,h1,Z9.2 ⟨_,rfl,by simpa using (hr.drop off).take (P.cellsOf t)⟩⟩
  ·cases hp
variable {F A:Nat→Prop} {hp:Hp}
theorem ZgN {id sz n c i:Nat} {a:Option Addr} {xs:List D} {ex fz:Bool} (h:Zac w I F A a n c sz xs ex fz) {x:D} (hx:xs[i]?=some x) :
  ∃ g vs,a=some ⟨g,0,none⟩∧vs.length=sz∧Qf w g (i*sz) vs∧ZD w I x vs:=by
 obtain⟨h1,h2⟩:=h
 rcases h2 with ⟨h2,_⟩ | ⟨g,cur,e,ha,_,_,_,_,_,_,_,_,hr⟩
 ·have:xs=[]:=List.eq_nil_of_length_eq_zero (by omega)
  subst this;simp at hx
 ·obtain⟨vs,h3,h4,h5⟩:=QZ.1 hr i x hx
  refine⟨g,vs,ha,h3,by simpa using h4,?_⟩
  cases ex
  ·exact h5
  ·exact h5.mono ⟨fun b hb=>hb.1,fun _ _=>rfl⟩
theorem ZkT {ns:Nat} {y:D} {v:Value} (h:Yu w I F A ns y v) (hy:∀ ys,y≠.sl ys):y.plain=true∧ZD w I y [v]:=by
 cases y<;>first | exact h | exact absurd rfl (hy _)
theorem Uo {sz ns n c i:Nat} {a:Option Addr} {xs:List D} (h:UV w I F A a n c sz ns xs) {x:D} (hx:xs[i]?=some x) :
  ∃ g vs,a=some ⟨g,0,none⟩∧vs.length=sz∧Qf w g (i*sz) vs∧Zm (Yu w I F A ns) x.cells vs:=by
 obtain⟨h1,h2⟩:=h
 rcases h2 with ⟨h2,_⟩ | ⟨g,cur,e,ha,_,_,_,_,_,_,_,_,hr,_⟩
 ·have:xs=[]:=List.eq_nil_of_length_eq_zero (by omega)
  subst this;simp at hx
 ·obtain⟨vs,h3,h4,h5⟩:=hr i x hx
  exact⟨g,vs,ha,h3,h4,h5⟩
theorem Zoa {x:AV} {v:Value} (h:Q0 Γ w I x v):Q0 Γ w I (ZdD x) v:=by
 cases x with
 | bbuf _ _=>trivial
 | _=>exact h
theorem ZkU {t:TypeId} {g:Bool} (hg:J9 P t=some g) (ho:Wl Γ w I F A hp) {x r:AV} {v:Value} (h:Rep Γ w I x v) (hp' : Y9 hp g (P.cellsOf t) x=some r) :
  ∃ u,(Instr.loadAt t v).run P w=.ok u w∧Rep Γ w I r u:=by
 unfold Y9 at hp'
 split at hp'
 ·rename_i id off
  obtain⟨b,hb,rfl⟩:=h
  unfold Wz at hp'
  split at hp'
  ·rename_i cs hl
   obtain⟨b',cur,e,hb',hw,_,_,hc,_⟩:=ho id _ hl
   rw[hb] at hb';cases hb'
   have hat:=Zbq hw
   cases g
   ·simp only[Bool.false_eq_true,if_false] at hp'
    obtain⟨r0,hr0,rfl⟩:=Option.map_eq_some_iff.1 hp'
    obtain⟨u,hu,h1⟩:=hc.get off r0 hr0
    have:=hat off u hu
    exact⟨u,by simp only[Nat.zero_add] at this;simp[Instr.loadAt,Instr.sureAddr,loadVar,Ye hg,this],(Zoa h1).rep2.rep⟩
   ·simp only[if_true] at hp'
    split at hp'
    ·cases hp'
     obtain⟨u,h1,h2⟩:=Zfg (P:=P) hg (h:=(hat.drop off).take (P.cellsOf t)) (by rw[List.length_take,List.length_drop,← hc.length];omega) (fun h=>by cases h)
     simp only[if_true] at h2
     subst h2
     refine⟨_,by simpa [Instr.loadAt,Instr.sureAddr] using h1,ZbZ ?_⟩
     simpa using (hc.drop off).take (P.cellsOf t)
    ·cases hp'
  ·cases hp'
 ·rename_i id sz i off
  obtain⟨b,n,c,hb,hi,rfl⟩:=h
  unfold WA at hp'
  split at hp'
  ·rename_i sz' xs ex fz hl
   split at hp'
   ·rename_i hsz
    subst hsz
    obtain⟨a,n',c',hb',hro⟩:=ho id _ hl
    rw[hb] at hb';cases hb'
    obtain⟨y,hy,hp'⟩:=Za hp'
    obtain⟨g',vs,ha,h3,h4,h5⟩:=ZgN (id:=id) hro hy
    cases ha
    unfold ZdE at hp'
    split at hp'
    ·have:=ZgM (P:=P) (Γ:=Γ) hg h5.cells h4 hp'
     obtain⟨u,h6,h7⟩:=this
     exact⟨u,by simpa [Instr.loadAt,Instr.sureAddr] using h6,h7⟩
    ·cases hp'
   ·cases hp'
  ·rename_i sz' ns xs lk hl
   split at hp'
   ·rename_i hsz
    subst hsz
    cases g
    ·simp only[Bool.false_eq_true,if_false] at hp'
     obtain⟨a,n',c',hb',hd,hlk⟩:=ho id _ hl
     rw[hb] at hb';cases hb'
     obtain⟨y,hy,hq⟩:=Za hp'
     clear hp'
     obtain⟨g',vs,ha,h3,h4,h5⟩:=Uo hd hy
     cases ha
     unfold J3 at hq
     split at hq
     ·unfold ZkX at hq
      split at hq
      ·split at hq
       ·rename_i hc
        obtain⟨rfl,rfl⟩:=hc
        cases hq
        obtain⟨g2,a2,n2,c2,s2,ha2,h6,h7,h8,h9⟩:=hlk
        cases ha2
        exact⟨_,by simp[Instr.loadAt,Instr.sureAddr,loadVar,Ye hg,h9],⟨⟨_,hb⟩,a2,n2,c2,s2,h6,rfl⟩⟩
       ·cases hq
      ·cases hq
     ·rename_i y' hne hy'
      split at hq
      ·cases hq
       obtain⟨u,hu,h6⟩:=h5.get off y' hy'
       have:=h4 off u hu
       have h7:=ZkT h6 fun ys e=>hne ys e
       exact⟨u,by simp[Instr.loadAt,Instr.sureAddr,loadVar,Ye hg,this],Z9.2 ((QD.one (by cases y' <;> simp_all [D.plain,D.one])).2 h7.2)⟩
      ·cases hq
     ·cases hq
    ·simp only[if_true] at hp'
     cases hp'
   ·cases hp'
  ·cases hp'
 ·rename_i cs
  obtain⟨b,o,vs,rfl,hI,hat,hr⟩:=h
  obtain⟨u,h6,h7⟩:=ZgM (P:=P) (Γ:=Γ) hg hr hat hp'
  exact⟨u,by simpa [Instr.loadAt,Instr.sureAddr] using h6,h7⟩
 ·cases hp'
theorem Ziz {off:Nat} {x:AV} {v:Value} {ce:Zb} (h:Rep Γ w I x v) (hp:X9 off x=some ce) :
  ∃ b o r,v=.pointer (some ⟨b,o,none⟩)∧ce = { eff := { val:=r },gone:=[] }∧Rep Γ w I r (.pointer (some ⟨b,o+off,none⟩)):=by
 unfold X9 at hp
 split at hp
 ·obtain⟨b,hb,rfl⟩:=h
  cases hp
  exact⟨b.1,_,_,rfl,rfl,b,hb,rfl⟩
 ·obtain⟨b,n,c,hb,hi,rfl⟩:=h
  cases hp
  exact⟨b,_,_,rfl,rfl,b,n,c,hb,hi,by rw[Nat.add_assoc]⟩
 ·obtain⟨b,o,vs,rfl,hI,hat,hr⟩:=h
  cases hp
  exact⟨b,_,_,rfl,rfl,b,o+off,vs.drop off,rfl,hI,hat.drop off,hr.drop off⟩
 ·cases hp
theorem Zob {s:TypeId} {f:Nat} {q:Nat×TypeId} (hq:ZaB P s f=some q) {x:AV} {v:Value} {ce:Zb} (h:Rep Γ w I x v) (hp:X9 q.1 x=some ce) :
  ∃ u r,(Instr.fieldAt s v f).run P w=.ok u w∧ce = { eff := { val:=r },gone:=[] }∧Rep Γ w I r u:=by
 obtain⟨fs,y,h1,h2,h3,h4,h5⟩:=Zbp hq
 obtain⟨b,o,r,rfl,h6,h7⟩:=Ziz h hp
 obtain⟨i,hi⟩:=Zct h5
 refine⟨_,r,?_,h6,h7⟩
 simp[Instr.fieldAt,run_underlying h1,h2,Instr.sureAddr,fieldPlace,h4,Qz hi,h5,Y8,h3]
theorem Zoc {t:TypeId} {a:Nat×TypeId} (ha:ZcT P t=some a) (hi:∃ i,P.info? a.2=some i) {x y:AV} {v k:Value} {n:Int} (h:Rep Γ w I x v) (hk:Rep Γ w I y k) (hn:idx y=some n) {ce:Zb}
  (hp:Zfi x n a.1 (P.cellsOf a.2)=some ce):∃ u r,(Instr.indexAt t v k).run P w=.ok u w∧ce = { eff := { val:=r },gone:=[] }∧Rep Γ w I r u:=by
 obtain⟨kk,rfl⟩:=Vf hn hk
 obtain⟨i,hi⟩:=hi
 unfold Zfi at hp
 split at hp
 ·rename_i hb
  obtain⟨b,o,r,rfl,h6,h7⟩:=Ziz h hp
  refine⟨_,r,?_,h6,h7⟩
  simp[Instr.indexAt,asIntOf,run_underlying (Zix ha),Instr.sureAddr,hb.1,hb.2,Qz hi,Y8]
 ·cases hp
theorem ZhT {sz n:Nat} (ho:Wl Γ w I F A hp) {x r:AV} {v:Value} (h:Rep Γ w I x v) (hp' : Qd hp sz n x=some r) :
  ∃ b o m c,v=.slice (some ⟨b,o,none⟩) m c∧n<m∧Rep Γ w I r (.pointer (some ⟨b,o+n*sz,none⟩)):=by
 unfold Qd at hp'
 split at hp'
 ·rename_i xs
  obtain⟨y,hy,hp'⟩:=Za hp'
  have:=Z9.1 h
  simp only[QD,ZD] at this
  obtain⟨a,c,hv,hc,h1⟩:=this
  simp at hv
  subst hv
  have hlt:n<xs.length:=(List.getElem?_eq_some_iff.1 hy).1
  rcases h1 with h1 | ⟨b,o,sz',rfl,hI,h0,hr⟩
  ·subst h1;simp at hy
  ·obtain⟨vs,h3,h4,h5⟩:=QZ.1 hr n y hy
   unfold Znc at hp'
   split at hp'
   ·rename_i hlen
    cases hp'
    have:sz'=sz:=by rw[← h3,h5.length,hlen]
    subst this
    exact⟨b,o,_,c,rfl,hlt,b,_,vs,rfl,hI,h4,h5.cells⟩
   ·cases hp'
 ·rename_i id
  obtain⟨a,m,c,sz',hb,rfl⟩:=h
  unfold Jc at hp'
  split at hp'
  ·rename_i sz'' xs ex fz hl
   split at hp'
   ·rename_i hc
    cases hp'
    obtain⟨rfl,hlt⟩:=hc
    obtain⟨a',n',c',hb',hro⟩:=ho id _ hl
    rw[hb] at hb';cases hb'
    obtain⟨y,hy⟩:∃ y,xs[n]?=some y:=⟨_,List.getElem?_eq_getElem hlt⟩
    obtain⟨g',vs,rfl,h3,h4,h5⟩:=ZgN (id:=id) hro hy
    have hm:m=xs.length:=hro.1
    exact⟨g',0,m,c,rfl,by omega,g',m,c,hb,by omega,by simp⟩
   ·cases hp'
  ·rename_i sz'' ns xs lk hl
   split at hp'
   ·rename_i hc
    cases hp'
    obtain⟨rfl,hlt⟩:=hc
    obtain⟨a',n',c',hb',hro,_⟩:=ho id _ hl
    rw[hb] at hb';cases hb'
    obtain⟨y,hy⟩:∃ y,xs[n]?=some y:=⟨_,List.getElem?_eq_getElem hlt⟩
    obtain⟨g',vs,rfl,h3,h4,h5⟩:=Uo hro hy
    have hm:m=xs.length:=hro.1
    exact⟨g',0,m,c,rfl,by omega,g',m,c,hb,by omega,by simp⟩
   ·cases hp'
  ·cases hp'
 ·rename_i id off m
  obtain⟨a0,m',c,sz',a,hb,h1,h2,rfl,h3,h4⟩:=h
  unfold UM at hp'
  split at hp'
  ·rename_i sz'' xs ex fz hl
   split at hp'
   ·rename_i hc
    cases hp'
    obtain⟨rfl,hlt⟩:=hc
    obtain⟨a',n',c',hb',hro⟩:=ho id _ hl
    rw[hb] at hb';cases hb'
    have hm:m'=xs.length:=hro.1
    obtain⟨y,hy⟩:∃ y,xs[off+n]?=some y:=⟨_,List.getElem?_eq_getElem (by omega)⟩
    obtain⟨g',vs,rfl,h5,h6,h7⟩:=ZgN (id:=id) hro hy
    rcases h4 with h4 | h4
    ·subst h4
     refine⟨g',off*sz',m,c-off,by simp[Y8],hlt,g',m',c,hb,by omega,?_⟩
     rw[Nat.add_mul];simp
    ·omega
   ·cases hp'
  ·cases hp'
 ·cases hp'
theorem Zod {t e:TypeId} (he:Xr P t=some e) (hi:∃ i,P.info? e=some i) (ho:Wl Γ w I F A hp) {x y r:AV} {v k:Value} {n:Int} (h:Rep Γ w I x v) (hk:Rep Γ w I y k) (hn:idx y=some n)
  (h0:0≤n) (hp' : Qd hp (P.cellsOf e) n.toNat x=some r):∃ u,(Instr.indexAt t v k).run P w=.ok u w∧Rep Γ w I r u:=by
 obtain⟨kk,rfl⟩:=Vf hn hk
 obtain⟨i,hi⟩:=hi
 obtain⟨b,o,m,c,rfl,hlt,hr⟩:=ZhT ho h hp'
 have hlt' : n<(m:Int):=by omega
 exact⟨_,by simp[Instr.indexAt,asIntOf,run_underlying (Qy he),h0,hlt',Qz hi,Y8],hr⟩
end
end Go.Abs
