/- Own text. -/
import Derived.Test.YtcefneehgbiebaaGreatDoorAbsRep
import Derived.Laws.MakeOwn
import Derived.Laws.StructEq
import Derived.Laws.Concat
import Derived.Laws.Slices
set_option linter.unusedVariables false
set_option linter.unusedSimpArgs false
namespace Go.Abs
open Go
section
variable {P:Program}
theorem Q0 {t e:TypeId} (h:Yf P t=some e):P.underlying t=some (.slice e):=by
 unfold Yf at h;split at h
 ·cases h;assumption
 ·cases h
theorem Jg {t:TypeId} (h:ZaD P t=true):P.underlying t=some .string:=by
 unfold ZaD at h;split at h
 ·assumption
 ·cases h
theorem ZrK {t:TypeId} {k:IntKind} (h:ZyB P t=some k):P.underlying t=some (.int k):=by
 unfold ZyB at h;split at h
 ·cases h;assumption
 ·cases h
theorem ZrL {t:TypeId} {a:Nat×TypeId} (h:ZiF P t=some a):P.underlying t=some (.array a.1 a.2):=by
 unfold ZiF at h;split at h
 ·cases h;assumption
 ·cases h
theorem VV {t:TypeId} {g:Bool} (h:Zev P t=some g) (w:World):(isAgg t).run P w=.ok g w:=by
 unfold Zev at h;unfold isAgg;split at h
 ·cases h;rename_i hu;simp[run_underlying hu]
 ·cases h;rename_i hu;simp[run_underlying hu]
 ·cases h;rename_i d h1 h2 hu;simp only[Sem.run_bind,run_underlying hu,Result.andThen_ok];cases d<;>first | rfl | (exfalso;exact h1 _ hu) | (exfalso;exact h2 _ _ hu)
 ·cases h
theorem U7 {t:TypeId} {d:TypeDesc} (h:P.underlying t=some d):∃ i,P.info? t=some i:=by
 unfold Program.underlying at h;cases hi:P.info? t with
 | none=>rw[hi] at h;cases h
 | some i=>exact⟨i,rfl⟩
theorem Q1 {t:TypeId} {i:TypeInfo} (h:P.info? t=some i) (w:World):(sizeOf t).run P w=.ok (P.cellsOf t) w:=by
 simp[sizeOf,typeInfo,h,Program.cellsOf]
theorem Zid {t:TypeId} (h:P.cellsOf t≠0):∃ i,P.info? t=some i:=by
 cases hi:P.info? t with
 | none=>simp[Program.cellsOf,hi] at h
 | some i=>exact⟨i,rfl⟩
theorem Zhw {t:TypeId} {g:Bool} (h:Zev P t=some g):∃ i,P.info? t=some i:=by
 unfold Zev at h;split at h
 ·rename_i hu;exact U7 hu
 ·rename_i hu;exact U7 hu
 ·rename_i hu;exact U7 hu
 ·cases h
theorem Zgv {s:TypeId} {f:Nat} {q:Nat×TypeId} (h:Zfd P s f=some q) :
  ∃ fs x,P.underlying s=some (.struct fs)∧fs[f]?=some x∧x.offset=q.1∧x.type=q.2∧P.cellsOf q.2≠0:=by
 unfold Zfd at h;split at h
 ·rename_i fs hu;split at h
  ·rename_i x hx;split at h
   ·cases h
   ·cases h;exact⟨fs,x,hu,hx,rfl,rfl,by assumption⟩
  ·cases h
 ·cases h
theorem Ziz {t:TypeId} {z:Value} (h:ZbS P t=some z):∃ i,P.info? t=some i∧i.zero=some z:=by
 unfold ZbS at h;split at h
 ·rename_i i hi;exact⟨i,hi,h⟩
 ·cases h
theorem Zem {t:TypeId} {z:Value} (h:ZbS P t=some z) (w:World):(zeroValue t).run P w=.ok z w:=by
 obtain⟨i,hi,hz⟩:=Ziz h;simp[zeroValue,typeInfo,hi,hz]
theorem Vw {t:TypeId} (h:U8 P t=true):∃ i z,P.info? t=some i∧i.zero=some z∧z.cells.size=i.size∧0<i.size∧P.cellsOf t=i.size∧P.bytesOf t=i.bytes:=by
 unfold U8 at h;split at h
 ·rename_i i hi;split at h
  ·rename_i z hz;simp at h;exact⟨i,z,hi,hz,h.1,h.2,by simp[Program.cellsOf,hi],by simp[Program.bytesOf,hi]⟩
  ·cases h
 ·cases h
end
section
variable {P:Program} {Γ:Gh} {w:World} {I:Nat→Prop}
theorem ZkE (v:Value):XJ Γ w I (Un v) v:=by
 cases v<;>try exact trivial
 ·exact⟨rfl,by simp[ZO]⟩
 ·exact⟨rfl,by simp[ZO]⟩
 ·exact⟨rfl,_,rfl,rfl⟩
 ·rename_i a;cases a
  ·rfl
  ·exact trivial
 ·rename_i a n c;cases a
  ·cases n
   ·cases c
    ·exact⟨none,rfl⟩
    ·exact trivial
   ·exact trivial
  ·exact trivial
 ·rfl
theorem ZrM:∀ (vs:List Value),Zt (XJ Γ w I) (vs.map Un) vs
 | []=>trivial
 | v :: vs=>⟨ZkE v,ZrM vs⟩
theorem Zxv (v:Value):Rep Γ w I (evC v) v:=by
 cases v with
 | agg cs=>exact ZhF (ZrM cs.toList)
 | _=>simp only[evC];exact(ZkE _).rep2.rep
def ZbZ (Γ:Gh) (w:World) (I:Nat→Prop) (sl:Sl) (a:Act):Prop:=∀ t,Rep Γ w I (gs sl t) (a.tmps.getD t undef)
theorem ZbZ.ev {sl:Sl} {a:Act} (h:ZbZ Γ w I sl a) {x:Operand} {y:Opd} (hc:Z2 x=some y):Rep Γ w I (evO sl y) (a.eval x):=by
 cases x with
 | tmp t=>simp only[Z2] at hc;cases hc;exact h t
 | const v=>simp only[Z2] at hc;cases hc;exact Zxv v
 | global g=>simp only[Z2] at hc;cases hc
 | func f=>simp only[Z2] at hc;cases hc;exact⟨#[],rfl,trivial⟩
theorem ZbZ.evL {sl:Sl} {a:Act} (h:ZbZ Γ w I sl a):∀ {xs:List Operand} {ys:List Opd},QF Z2 xs=some ys→Zt (Rep Γ w I) (evL sl ys) (xs.map a.eval)
 | [],ys,hc=>by simp only[QF] at hc;cases hc;exact trivial
 | x :: xs,ys,hc=>by
  simp only[QF] at hc;obtain⟨y,h1,hc⟩:=Za hc;obtain⟨aa,h2,hc⟩:=Za hc;cases hc;exact⟨h.ev h1,h.evL h2⟩
theorem rep_int {k:IntKind} {n:Int} {v:Value} (h:Rep Γ w I (.d (.int k n)) v):v=.int k n:=by
 have:=QE.1 h;simpa [Xy,ZO] using this
theorem Zen {b:Bool} {v:Value} (h:Rep Γ w I (.d (.bool b)) v):v=.bool b:=by
 have:=QE.1 h;simpa [Xy,ZO] using this
theorem Zfa {s:List UInt8} {v:Value} (h:Rep Γ w I (.d (.str s)) v):∃ t:ByteArray,v=.string t∧t.data.toList=s:=by
 have:=QE.1 h;simpa [Xy,ZO] using this
theorem Zn4 {ds:List D} {v:Value} (h:Rep Γ w I (.d (.agg ds)) v):∃ vs,v=.agg vs∧Xr w I ds vs.toList:=QE.1 h
theorem Zcr (k:IntKind) (n:Int):Rep Γ w I (.d (.int k n)) (.int k n):=QE.2 (by simp[Xy,ZO])
theorem Zys (b:Bool):Rep Γ w I (.d (.bool b)) (.bool b):=QE.2 (by simp[Xy,ZO])
theorem Zuz {t:ByteArray} {s:List UInt8} (h:t.data.toList=s):Rep Γ w I (.d (.str s)) (.string t):=QE.2 (by simp[Xy,ZO,h])
theorem UX {x:AV} {n:Int} {v:Value} (hi:idx x=some n) (h:Rep Γ w I x v):∃ k,v=.int k n:=by
 unfold idx at hi;split at hi
 ·cases hi;exact⟨_,rep_int h⟩
 ·cases hi
theorem ZuA {R:AV→Value→Prop} {cs:List AV} {vs:Array Value} (h:Zt R cs vs.toList) (off s:Nat) :
  Zt R ((cs.drop off).take s) (vs.extract off (off+s)).toList:=by
 have:=(h.drop off).take s;simpa [Array.toList_extract,List.extract_eq_take_drop] using this
theorem ZuB {t:TypeId} {g:Bool} (hg:Zev P t=some g) {off:Nat} {x r:AV} {v:Value} (h:Rep Γ w I x v) (hp:Zju g (P.cellsOf t) off x=some r) :
  ∃ cs u,v=.agg cs∧(part t cs off).run P w=.ok u w∧Rep Γ w I r u:=by
 obtain⟨i,hi⟩:=Zhw hg;have hs:=Q1 hi w;unfold Zju at hp;split at hp
 ·obtain⟨vs,rfl,hr⟩:=Zn4 h;unfold ZdE at hp;cases g
  ·simp only[Ka,Ko,asD] at hp;obtain⟨d,hd,hp⟩:=Za hp;cases hp;obtain⟨u,hu,h1,h2⟩:=(Xn.1 hr).get off d hd;refine⟨vs,u,rfl,?_,QE.2 ((Xy.one h1).2 h2)⟩;have aa : vs[off]?=some u:=by simpa using hu
   simp[part,VV hg,aa]
  ·simp only[Km] at hp;split at hp
   ·cases hp;refine⟨vs,.agg (vs.extract off (off+P.cellsOf t)),rfl,by simp[part,VV hg,hs],QE.2 ⟨_,rfl,?_⟩⟩;rw[Xn] at hr ⊢;have:=(hr.drop off).take (P.cellsOf t);simpa [Array.toList_extract,List.extract_eq_take_drop] using this
   ·cases hp
 ·obtain⟨vs,rfl,hr⟩:=h;cases g
  ·simp only[Ka,Ko] at hp;obtain⟨u,hu,h1⟩:=hr.get off r hp;have aa : vs[off]?=some u:=by simpa using hu
   exact⟨vs,u,rfl,by simp[part,VV hg,aa],h1.rep2.rep⟩
  ·simp only[Km] at hp;split at hp
   ·cases hp;exact⟨vs,.agg (vs.extract off (off+P.cellsOf t)),rfl,by simp[part,VV hg,hs],ZhF (ZuA (hr.mono fun _ _ h=>h.repB) _ _)⟩
   ·cases hp
 ·cases hp
theorem Uy (b o n:Nat):(⟨b,o,none⟩:Addr).add n=⟨b,o+n,none⟩:=by unfold Addr.add;split<;>simp_all
theorem ZlW {t:TypeId} {g:Bool} (hg:Zev P t=some g) {b o:Nat} {vs:List Value} (h:QD w b o vs) (hl:vs.length=P.cellsOf t) (h1:g=false→∃ u,vs[0]?=some u) :
  ∃ u,(loadVar t ⟨b,o,none⟩).run P w=.ok u w∧(if g then u=.agg vs.toArray else vs[0]?=some u):=by
 obtain⟨i,hi⟩:=Zhw hg;cases g
 ·obtain⟨u,hu⟩:=h1 rfl;have:=h 0 u hu;exact⟨u,by simp[loadVar,VV hg,show w.cell? ⟨b,o,none⟩=some u from by simpa using this],by simpa using hu⟩
 ·refine⟨.agg vs.toArray,?_,by simp⟩;have hc:(loadCells ⟨b,o,none⟩ vs.length).run P w=.ok vs.toArray w:=run_loadCells_list (P:=P) w _ vs fun j u hu=>by
   rw[Uy];exact h j u hu
  rw[hl] at hc;simp[loadVar,VV hg,Q1 hi w,hc]
def ZaA (Γ:Gh) (w:World) (I F A:Nat→Prop) (hp:Hp):Prop:=∀ id o,lkp hp id=some o→VY Γ w I F A id o
theorem QD.drop {b o:Nat} {vs:List Value} (h:QD w b o vs) (n:Nat):QD w b (o+n) (vs.drop n):=fun j u hu=>by
 have:=h (n+j) u (by simpa [Lf] using hu);simpa [Ln] using this
theorem QD.take {b o:Nat} {vs:List Value} (h:QD w b o vs) (n:Nat):QD w b o (vs.take n):=fun j u hu=>by
 rw[K7] at hu;split at hu
 ·exact h j u hu
 ·cases hu
theorem Zgw {b:Nat} {cur:Array Value} {e:TypeId} {fr:Nat×Nat} (h:w.heap[b]?=some (.cells cur e fr)):QD w b 0 cur.toList:=fun j u hu=>by
 rw[cell_of_row w b _ cur e fr h];simpa using hu
theorem Xr.drop {S:Nat→Prop} {ds:List D} {vs:List Value} (h:Xr w S ds vs) (n:Nat):Xr w S (ds.drop n) (vs.drop n):=Xn.2 ((Xn.1 h).drop n)
theorem Xr.take {S:Nat→Prop} {ds:List D} {vs:List Value} (h:Xr w S ds vs) (n:Nat):Xr w S (ds.take n) (vs.take n):=Xn.2 ((Xn.1 h).take n)
theorem Zn5 {t:TypeId} {g:Bool} (hg:Zev P t=some g) {b o off:Nat} {cs:List D} {vs:List Value} (hr:Xr w I cs vs) (h:QD w b o vs) {r:AV} (hp:ZdE g (P.cellsOf t) off cs=some r) :
  ∃ u,(loadVar t ⟨b,o+off,none⟩).run P w=.ok u w∧Rep Γ w I r u:=by
 unfold ZdE at hp;cases g
 ·simp only[Ka,Ko,asD] at hp;obtain⟨d,hd,hp⟩:=Za hp;cases hp;obtain⟨u,hu,h1,h2⟩:=(Xn.1 hr).get off d hd;have:=h off u hu;exact⟨u,by simp[loadVar,VV hg,this],QE.2 ((Xy.one h1).2 h2)⟩
 ·simp only[Km] at hp;split at hp
  ·rename_i hl;cases hp;obtain⟨u,h1,h2⟩:=ZlW (P:=P) hg (h:=(h.drop off).take (P.cellsOf t)) (by rw[Lj,Lv,← hr.length];omega) (fun h=>by cases h);simp only[Km] at h2;subst h2;exact⟨_,h1,QE.2 ⟨_,rfl,by simpa using (hr.drop off).take (P.cellsOf t)⟩⟩
  ·cases hp
variable {F A:Nat→Prop} {hp:Hp}
theorem Zn6 {id sz n c i:Nat} {a:Option Addr} {xs:List D} {ex fz:Bool} (h:ZeC w I F A a n c sz xs ex fz) {x:D} (hx:xs[i]?=some x) :
  ∃ g vs,a=some ⟨g,0,none⟩∧vs.length=sz∧QD w g (i*sz) vs∧ZO w I x vs:=by
 obtain⟨h1,h2⟩:=h;rcases h2 with ⟨h2,_⟩ | ⟨g,cur,e,ha,_,_,_,_,_,_,_,_,hr⟩
 ·have:xs=[]:=Kp (by omega);subst this;simp at hx
 ·obtain⟨vs,h3,h4,h5⟩:=X5.1 hr i x hx;refine⟨g,vs,ha,h3,by simpa using h4,?_⟩;cases ex
  ·exact h5
  ·exact h5.mono ⟨fun b hb=>hb.1,fun _ _=>rfl⟩
theorem ZuC {ns:Nat} {y:D} {v:Value} (h:Wu w I F A ns y v) (hy:∀ ys,y≠.sl ys):y.plain=true∧ZO w I y [v]:=by
 cases y<;>first | exact h | exact absurd rfl (hy _)
theorem Zcg {sz ns n c i:Nat} {a:Option Addr} {xs:List D} (h:ZcF w I F A a n c sz ns xs) {x:D} (hx:xs[i]?=some x) :
  ∃ g vs,a=some ⟨g,0,none⟩∧vs.length=sz∧QD w g (i*sz) vs∧Zt (Wu w I F A ns) x.cells vs:=by
 obtain⟨h1,h2⟩:=h;rcases h2 with ⟨h2,_⟩ | ⟨g,cur,e,ha,_,_,_,_,_,_,_,_,hr,_⟩
 ·have:xs=[]:=Kp (by omega);subst this;simp at hx
 ·obtain⟨vs,h3,h4,h5⟩:=hr i x hx;exact⟨g,vs,ha,h3,h4,h5⟩
theorem Zyt {x:AV} {v:Value} (h:XJ Γ w I x v):XJ Γ w I (Zjs x) v:=by
 cases x with
 | bbuf _ _=>trivial
 | _=>exact h
theorem ZuD {t:TypeId} {g:Bool} (hg:Zev P t=some g) (ho:ZaA Γ w I F A hp) {x r:AV} {v:Value} (h:Rep Γ w I x v) (hp' : Uz hp g (P.cellsOf t) x=some r) :
  ∃ u,(Instr.loadAt t v).run P w=.ok u w∧Rep Γ w I r u:=by
 unfold Uz at hp';split at hp'
 ·rename_i id off;obtain⟨b,hb,rfl⟩:=h;unfold Za0 at hp';split at hp'
  ·rename_i cs hl;obtain⟨b',cur,e,aa,hw,_,_,hc,_⟩:=ho id _ hl;rw[hb] at aa;cases aa;have ab:=Zgw hw;cases g
   ·simp only[Ka,Ko] at hp';obtain⟨r0,ae,rfl⟩:=Option.map_eq_some_iff.1 hp';obtain⟨u,hu,h1⟩:=hc.get off r0 ae;have:=ab off u hu;exact⟨u,by simp only[K2] at this;simp[Instr.loadAt,Instr.sureAddr,loadVar,VV hg,this],(Zyt h1).rep2.rep⟩
   ·simp only[Km] at hp';split at hp'
    ·cases hp';obtain⟨u,h1,h2⟩:=ZlW (P:=P) hg (h:=(ab.drop off).take (P.cellsOf t)) (by rw[Lj,Lv,← hc.length];omega) (fun h=>by cases h);simp only[Km] at h2;subst h2;refine⟨_,by simpa [Instr.loadAt,Instr.sureAddr] using h1,ZhF ?_⟩;simpa using (hc.drop off).take (P.cellsOf t)
    ·cases hp'
  ·cases hp'
 ·rename_i id sz i off;obtain⟨b,n,c,hb,hi,rfl⟩:=h;unfold Za1 at hp';split at hp'
  ·rename_i af xs ex fz hl;split at hp'
   ·rename_i ad;subst ad;obtain⟨a,n',c',aa,ag⟩:=ho id _ hl;rw[hb] at aa;cases aa;obtain⟨y,hy,hp'⟩:=Za hp';obtain⟨g',vs,ha,h3,h4,h5⟩:=Zn6 (id:=id) ag hy;cases ha;unfold Zjt at hp';split at hp'
    ·have:=Zn5 (P:=P) (Γ:=Γ) hg h5.cells h4 hp';obtain⟨u,h6,h7⟩:=this;exact⟨u,by simpa [Instr.loadAt,Instr.sureAddr] using h6,h7⟩
    ·cases hp'
   ·cases hp'
  ·rename_i af ns xs lk hl;split at hp'
   ·rename_i ad;subst ad;cases g
    ·simp only[Ka,Ko] at hp';obtain⟨a,n',c',aa,hd,ah⟩:=ho id _ hl;rw[hb] at aa;cases aa;obtain⟨y,hy,hq⟩:=Za hp';clear hp';obtain⟨g',vs,ha,h3,h4,h5⟩:=Zcg hd hy;cases ha;unfold Zep at hq;split at hq
     ·unfold ZuF at hq;split at hq
      ·split at hq
       ·rename_i hc;obtain⟨rfl,rfl⟩:=hc;cases hq;obtain⟨g2,a2,n2,c2,s2,ai,h6,h7,h8,h9⟩:=ah;cases ai;exact⟨_,by simp[Instr.loadAt,Instr.sureAddr,loadVar,VV hg,h9],⟨⟨_,hb⟩,a2,n2,c2,s2,h6,rfl⟩⟩
       ·cases hq
      ·cases hq
     ·rename_i y' aj ak;split at hq
      ·cases hq;obtain⟨u,hu,h6⟩:=h5.get off y' ak;have:=h4 off u hu;have h7:=ZuC h6 fun ys e=>aj ys e;exact⟨u,by simp[Instr.loadAt,Instr.sureAddr,loadVar,VV hg,this],QE.2 ((Xy.one (by cases y' <;> simp_all [D.plain,D.one])).2 h7.2)⟩
      ·cases hq
     ·cases hq
    ·simp only[Km] at hp';cases hp'
   ·cases hp'
  ·cases hp'
 ·rename_i cs;obtain⟨b,o,vs,rfl,hI,ab,hr⟩:=h;obtain⟨u,h6,h7⟩:=Zn5 (P:=P) (Γ:=Γ) hg hr ab hp';exact⟨u,by simpa [Instr.loadAt,Instr.sureAddr] using h6,h7⟩
 ·cases hp'
theorem ZrN {off:Nat} {x:AV} {v:Value} {ce:Zd} (h:Rep Γ w I x v) (hp:VF off x=some ce) :
  ∃ b o r,v=.pointer (some ⟨b,o,none⟩)∧ce = { eff := { val:=r },gone:=[] }∧Rep Γ w I r (.pointer (some ⟨b,o+off,none⟩)):=by
 unfold VF at hp;split at hp
 ·obtain⟨b,hb,rfl⟩:=h;cases hp;exact⟨b.1,_,_,rfl,rfl,b,hb,rfl⟩
 ·obtain⟨b,n,c,hb,hi,rfl⟩:=h;cases hp;exact⟨b,_,_,rfl,rfl,b,n,c,hb,hi,by rw[Ln]⟩
 ·obtain⟨b,o,vs,rfl,hI,aa,hr⟩:=h;cases hp;exact⟨b,_,_,rfl,rfl,b,o+off,vs.drop off,rfl,hI,aa.drop off,hr.drop off⟩
 ·cases hp
theorem Zyu {s:TypeId} {f:Nat} {q:Nat×TypeId} (hq:Zfd P s f=some q) {x:AV} {v:Value} {ce:Zd} (h:Rep Γ w I x v) (hp:VF q.1 x=some ce) :
  ∃ u r,(Instr.fieldAt s v f).run P w=.ok u w∧ce = { eff := { val:=r },gone:=[] }∧Rep Γ w I r u:=by
 obtain⟨fs,y,h1,h2,h3,h4,h5⟩:=Zgv hq;obtain⟨b,o,r,rfl,h6,h7⟩:=ZrN h hp;obtain⟨i,hi⟩:=Zid h5;refine⟨_,r,?_,h6,h7⟩;simp[Instr.fieldAt,run_underlying h1,h2,Instr.sureAddr,fieldPlace,h4,Q1 hi,h5,Uy,h3]
theorem Zyv {t:TypeId} {a:Nat×TypeId} (ha:ZiF P t=some a) (hi:∃ i,P.info? a.2=some i) {x y:AV} {v k:Value} {n:Int} (h:Rep Γ w I x v) (hk:Rep Γ w I y k) (hn:idx y=some n) {ce:Zd}
  (hp:ZlY x n a.1 (P.cellsOf a.2)=some ce):∃ u r,(Instr.indexAt t v k).run P w=.ok u w∧ce = { eff := { val:=r },gone:=[] }∧Rep Γ w I r u:=by
 obtain⟨kk,rfl⟩:=UX hn hk;obtain⟨i,hi⟩:=hi;unfold ZlY at hp;split at hp
 ·rename_i hb;obtain⟨b,o,r,rfl,h6,h7⟩:=ZrN h hp;refine⟨_,r,?_,h6,h7⟩;simp[Instr.indexAt,asIntOf,run_underlying (ZrL ha),Instr.sureAddr,hb.1,hb.2,Q1 hi,Uy]
 ·cases hp
theorem Zqe {sz n:Nat} (ho:ZaA Γ w I F A hp) {x r:AV} {v:Value} (h:Rep Γ w I x v) (hp' : Qy hp sz n x=some r) :
  ∃ b o m c,v=.slice (some ⟨b,o,none⟩) m c∧n<m∧Rep Γ w I r (.pointer (some ⟨b,o+n*sz,none⟩)):=by
 unfold Qy at hp';split at hp'
 ·rename_i xs;obtain⟨y,hy,hp'⟩:=Za hp';have:=QE.1 h;simp only[Xy,ZO] at this;obtain⟨a,c,hv,hc,h1⟩:=this;simp at hv;subst hv;have ad:n<xs.length:=(Kb.1 hy).1;rcases h1 with h1 | ⟨b,o,af,rfl,hI,h0,hr⟩
  ·subst h1;simp at hy
  ·obtain⟨vs,h3,h4,h5⟩:=X5.1 hr n y hy;unfold Zxx at hp';split at hp'
   ·rename_i ag;cases hp';have:af=sz:=by rw[← h3,h5.length,ag]
    subst this;exact⟨b,o,_,c,rfl,ad,b,_,vs,rfl,hI,h4,h5.cells⟩
   ·cases hp'
 ·rename_i id;obtain⟨a,m,c,af,hb,rfl⟩:=h;unfold Zdk at hp';split at hp'
  ·rename_i ae xs ex fz hl;split at hp'
   ·rename_i hc;cases hp';obtain⟨rfl,ad⟩:=hc;obtain⟨a',n',c',aa,ab⟩:=ho id _ hl;rw[hb] at aa;cases aa;obtain⟨y,hy⟩:∃ y,xs[n]?=some y:=⟨_,Kq ad⟩
    obtain⟨g',vs,rfl,h3,h4,h5⟩:=Zn6 (id:=id) ab hy;have hm:m=xs.length:=ab.1;exact⟨g',0,m,c,rfl,by omega,g',m,c,hb,by omega,by simp⟩
   ·cases hp'
  ·rename_i ae ns xs lk hl;split at hp'
   ·rename_i hc;cases hp';obtain⟨rfl,ad⟩:=hc;obtain⟨a',n',c',aa,ab,_⟩:=ho id _ hl;rw[hb] at aa;cases aa;obtain⟨y,hy⟩:∃ y,xs[n]?=some y:=⟨_,Kq ad⟩
    obtain⟨g',vs,rfl,h3,h4,h5⟩:=Zcg ab hy;have hm:m=xs.length:=ab.1;exact⟨g',0,m,c,rfl,by omega,g',m,c,hb,by omega,by simp⟩
   ·cases hp'
  ·cases hp'
 ·rename_i id off m;obtain⟨a0,m',c,af,a,hb,h1,h2,rfl,h3,h4⟩:=h;unfold Zcu at hp';split at hp'
  ·rename_i ae xs ex fz hl;split at hp'
   ·rename_i hc;cases hp';obtain⟨rfl,ad⟩:=hc;obtain⟨a',n',c',aa,ab⟩:=ho id _ hl;rw[hb] at aa;cases aa;have hm:m'=xs.length:=ab.1;obtain⟨y,hy⟩:∃ y,xs[off+n]?=some y:=⟨_,Kq (by omega)⟩
    obtain⟨g',vs,rfl,h5,h6,h7⟩:=Zn6 (id:=id) ab hy;rcases h4 with h4 | h4
    ·subst h4;refine⟨g',off*af,m,c-off,by simp[Uy],ad,g',m',c,hb,by omega,?_⟩;rw[KE];simp
    ·omega
   ·cases hp'
  ·cases hp'
 ·cases hp'
theorem Zyw {t e:TypeId} (he:Yf P t=some e) (hi:∃ i,P.info? e=some i) (ho:ZaA Γ w I F A hp) {x y r:AV} {v k:Value} {n:Int} (h:Rep Γ w I x v) (hk:Rep Γ w I y k) (hn:idx y=some n)
  (h0:0≤n) (hp' : Qy hp (P.cellsOf e) n.toNat x=some r):∃ u,(Instr.indexAt t v k).run P w=.ok u w∧Rep Γ w I r u:=by
 obtain⟨kk,rfl⟩:=UX hn hk;obtain⟨i,hi⟩:=hi;obtain⟨b,o,m,c,rfl,ab,hr⟩:=Zqe ho h hp';have aa : n<(m:Int):=by omega
 exact⟨_,by simp[Instr.indexAt,asIntOf,run_underlying (Q0 he),h0,aa,Q1 hi,Uy],hr⟩
end
end Go.Abs
