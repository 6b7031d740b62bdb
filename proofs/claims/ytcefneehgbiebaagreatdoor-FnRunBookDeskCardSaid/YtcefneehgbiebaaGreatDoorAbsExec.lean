/- Own text. -/
import Derived.Test.YtcefneehgbiebaaGreatDoorAbsRep
import Derived.Laws.MakeOwn
import Derived.Laws.StructEq
import Derived.Laws.Concat
import Derived.Laws.Slices
set_option linter.unusedVariables false
set_option linter.unusedSimpArgs false
namespace Go.Abs
open Go
section
variable {P:Program}
theorem Q5 {t e:TypeId} (h:Yn P t=some e):P.underlying t=some (.slice e):=by
 unfold Yn at h;split at h
 ·cases h;assumption
 ·cases h
theorem JJ {t:TypeId} (h:Za9 P t=true):P.underlying t=some .string:=by
 unfold Za9 at h;split at h
 ·assumption
 ·cases h
theorem ZsL {t:TypeId} {k:IntKind} (h:ZzT P t=some k):P.underlying t=some (.int k):=by
 unfold ZzT at h;split at h
 ·cases h;assumption
 ·cases h
theorem ZsM {t:TypeId} {a:Nat×TypeId} (h:Zjh P t=some a):P.underlying t=some (.array a.1 a.2):=by
 unfold Zjh at h;split at h
 ·cases h;assumption
 ·cases h
theorem V9 {t:TypeId} {g:Bool} (h:Ze7 P t=some g) (w:World):(isAgg t).run P w=.ok g w:=by
 unfold Ze7 at h;unfold isAgg;split at h
 ·cases h;rename_i hu;simp[run_underlying hu]
 ·cases h;rename_i hu;simp[run_underlying hu]
 ·cases h;rename_i d h1 h2 hu;simp only[Sem.run_bind,run_underlying hu,Result.andThen_ok];cases d<;>first | rfl | (exfalso;exact h1 _ hu) | (exfalso;exact h2 _ _ hu)
 ·cases h
theorem Jy {t:TypeId} {d:TypeDesc} (h:P.underlying t=some d):∃ i,P.info? t=some i:=by
 unfold Program.underlying at h;cases hi:P.info? t with
 | none=>rw[hi] at h;cases h
 | some i=>exact⟨i,rfl⟩
theorem Q6 {t:TypeId} {i:TypeInfo} (h:P.info? t=some i) (w:World):(sizeOf t).run P w=.ok (P.cellsOf t) w:=by
 simp[sizeOf,typeInfo,h,Program.cellsOf]
theorem ZiN {t:TypeId} (h:P.cellsOf t≠0):∃ i,P.info? t=some i:=by
 cases hi:P.info? t with
 | none=>simp[Program.cellsOf,hi] at h
 | some i=>exact⟨i,rfl⟩
theorem Zh6 {t:TypeId} {g:Bool} (h:Ze7 P t=some g):∃ i,P.info? t=some i:=by
 unfold Ze7 at h;split at h
 ·rename_i hu;exact Jy hu
 ·rename_i hu;exact Jy hu
 ·rename_i hu;exact Jy hu
 ·cases h
theorem Zg3 {s:TypeId} {f:Nat} {q:Nat×TypeId} (h:ZfN P s f=some q) :
  ∃ fs x,P.underlying s=some (.struct fs)∧fs[f]?=some x∧x.offset=q.1∧x.type=q.2∧P.cellsOf q.2≠0:=by
 unfold ZfN at h;split at h
 ·rename_i fs hu;split at h
  ·rename_i x hx;split at h
   ·cases h
   ·cases h;exact⟨fs,x,hu,hx,rfl,rfl,by assumption⟩
  ·cases h
 ·cases h
theorem Zjb {t:TypeId} {z:Value} (h:Zco P t=some z):∃ i,P.info? t=some i∧i.zero=some z:=by
 unfold Zco at h;split at h
 ·rename_i i hi;exact⟨i,hi,h⟩
 ·cases h
theorem ZeY {t:TypeId} {z:Value} (h:Zco P t=some z) (w:World):(zeroValue t).run P w=.ok z w:=by
 obtain⟨i,hi,hz⟩:=Zjb h;simp[zeroValue,typeInfo,hi,hz]
theorem VJ {t:TypeId} (h:Jz P t=true):∃ i z,P.info? t=some i∧i.zero=some z∧z.cells.size=i.size∧0<i.size∧P.cellsOf t=i.size∧P.bytesOf t=i.bytes:=by
 unfold Jz at h;split at h
 ·rename_i i hi;split at h
  ·rename_i z hz;simp at h;exact⟨i,z,hi,hz,h.1,h.2,by simp[Program.cellsOf,hi],by simp[Program.bytesOf,hi]⟩
  ·cases h
 ·cases h
end
section
variable {P:Program} {Γ:Gh} {w:World} {I:Nat→Prop}
theorem Zlk (v:Value):XO Γ w I (UG v) v:=by
 cases v<;>try exact trivial
 ·exact⟨rfl,by simp[ZQ]⟩
 ·exact⟨rfl,by simp[ZQ]⟩
 ·exact⟨rfl,_,rfl,rfl⟩
 ·rename_i a;cases a
  ·rfl
  ·exact trivial
 ·rename_i a n c;cases a
  ·cases n
   ·cases c
    ·exact⟨none,rfl⟩
    ·exact trivial
   ·exact trivial
  ·exact trivial
 ·rfl
theorem ZsN:∀ (vs:List Value),Zu (XO Γ w I) (vs.map UG) vs
 | []=>trivial
 | v :: vs=>⟨Zlk v,ZsN vs⟩
theorem ZyI (v:Value):Rep Γ w I (evC v) v:=by
 cases v with
 | agg cs=>exact Zif (ZsN cs.toList)
 | _=>simp only[evC];exact(Zlk _).rep2.rep
def Zcw (Γ:Gh) (w:World) (I:Nat→Prop) (sl:Sl) (a:Act):Prop:=∀ t,Rep Γ w I (gs sl t) (a.tmps.getD t undef)
theorem Zcw.ev {sl:Sl} {a:Act} (h:Zcw Γ w I sl a) {x:Operand} {y:Opd} (hc:Z5 x=some y):Rep Γ w I (evO sl y) (a.eval x):=by
 cases x with
 | tmp t=>simp only[Z5] at hc;cases hc;exact h t
 | const v=>simp only[Z5] at hc;cases hc;exact ZyI v
 | global g=>simp only[Z5] at hc;cases hc
 | func f=>simp only[Z5] at hc;cases hc;exact⟨#[],rfl,trivial⟩
theorem Zcw.evL {sl:Sl} {a:Act} (h:Zcw Γ w I sl a):∀ {xs:List Operand} {ys:List Opd},QG Z5 xs=some ys→Zu (Rep Γ w I) (evL sl ys) (xs.map a.eval)
 | [],ys,hc=>by simp only[QG] at hc;cases hc;exact trivial
 | x :: xs,ys,hc=>by
  simp only[QG] at hc;obtain⟨y,h1,hc⟩:=Za hc;obtain⟨aa,h2,hc⟩:=Za hc;cases hc;exact⟨h.ev h1,h.evL h2⟩
theorem rep_int {k:IntKind} {n:Int} {v:Value} (h:Rep Γ w I (.d (.int k n)) v):v=.int k n:=by
 have:=QF.1 h;simpa [XE,ZQ] using this
theorem ZeZ {b:Bool} {v:Value} (h:Rep Γ w I (.d (.bool b)) v):v=.bool b:=by
 have:=QF.1 h;simpa [XE,ZQ] using this
theorem ZfK {s:List UInt8} {v:Value} (h:Rep Γ w I (.d (.str s)) v):∃ t:ByteArray,v=.string t∧t.data.toList=s:=by
 have:=QF.1 h;simpa [XE,ZQ] using this
theorem ZoV {ds:List D} {v:Value} (h:Rep Γ w I (.d (.agg ds)) v):∃ vs,v=.agg vs∧Xy w I ds vs.toList:=QF.1 h
theorem Zc2 (k:IntKind) (n:Int):Rep Γ w I (.d (.int k n)) (.int k n):=QF.2 (by simp[XE,ZQ])
theorem ZzK (b:Bool):Rep Γ w I (.d (.bool b)) (.bool b):=QF.2 (by simp[XE,ZQ])
theorem ZvE {t:ByteArray} {s:List UInt8} (h:t.data.toList=s):Rep Γ w I (.d (.str s)) (.string t):=QF.2 (by simp[XE,ZQ,h])
theorem Jn {x:AV} {n:Int} {v:Value} (hi:idx x=some n) (h:Rep Γ w I x v):∃ k,v=.int k n:=by
 unfold idx at hi;split at hi
 ·cases hi;exact⟨_,rep_int h⟩
 ·cases hi
theorem ZvF {R:AV→Value→Prop} {cs:List AV} {vs:Array Value} (h:Zu R cs vs.toList) (off s:Nat) :
  Zu R ((cs.drop off).take s) (vs.extract off (off+s)).toList:=by
 have:=(h.drop off).take s;simpa [Array.toList_extract,List.extract_eq_take_drop] using this
theorem ZvG {t:TypeId} {g:Bool} (hg:Ze7 P t=some g) {off:Nat} {x r:AV} {v:Value} (h:Rep Γ w I x v) (hp:Zka g (P.cellsOf t) off x=some r) :
  ∃ cs u,v=.agg cs∧(part t cs off).run P w=.ok u w∧Rep Γ w I r u:=by
 obtain⟨i,hi⟩:=Zh6 hg;have hs:=Q6 hi w;unfold Zka at hp;split at hp
 ·obtain⟨vs,rfl,hr⟩:=ZoV h;unfold Zeh at hp;cases g
  ·simp only[Ka,Kq,asD] at hp;obtain⟨d,hd,hp⟩:=Za hp;cases hp;obtain⟨u,hu,h1,h2⟩:=(Xu.1 hr).get off d hd;refine⟨vs,u,rfl,?_,QF.2 ((XE.one h1).2 h2)⟩;have aa : vs[off]?=some u:=by simpa using hu
   simp[part,V9 hg,aa]
  ·simp only[Km] at hp;split at hp
   ·cases hp;refine⟨vs,.agg (vs.extract off (off+P.cellsOf t)),rfl,by simp[part,V9 hg,hs],QF.2 ⟨_,rfl,?_⟩⟩;rw[Xu] at hr ⊢;have:=(hr.drop off).take (P.cellsOf t);simpa [Array.toList_extract,List.extract_eq_take_drop] using this
   ·cases hp
 ·obtain⟨vs,rfl,hr⟩:=h;cases g
  ·simp only[Ka,Kq] at hp;obtain⟨u,hu,h1⟩:=hr.get off r hp;have aa : vs[off]?=some u:=by simpa using hu
   exact⟨vs,u,rfl,by simp[part,V9 hg,aa],h1.rep2.rep⟩
  ·simp only[Km] at hp;split at hp
   ·cases hp;exact⟨vs,.agg (vs.extract off (off+P.cellsOf t)),rfl,by simp[part,V9 hg,hs],Zif (ZvF (hr.mono fun _ _ h=>h.repB) _ _)⟩
   ·cases hp
 ·cases hp
theorem UU (b o n:Nat):(⟨b,o,none⟩:Addr).add n=⟨b,o+n,none⟩:=by unfold Addr.add;split<;>simp_all
theorem ZmG {t:TypeId} {g:Bool} (hg:Ze7 P t=some g) {b o:Nat} {vs:List Value} (h:QE w b o vs) (hl:vs.length=P.cellsOf t) (h1:g=false→∃ u,vs[0]?=some u) :
  ∃ u,(loadVar t ⟨b,o,none⟩).run P w=.ok u w∧(if g then u=.agg vs.toArray else vs[0]?=some u):=by
 obtain⟨i,hi⟩:=Zh6 hg;cases g
 ·obtain⟨u,hu⟩:=h1 rfl;have:=h 0 u hu;exact⟨u,by simp[loadVar,V9 hg,show w.cell? ⟨b,o,none⟩=some u from by simpa using this],by simpa using hu⟩
 ·refine⟨.agg vs.toArray,?_,by simp⟩;have hc:(loadCells ⟨b,o,none⟩ vs.length).run P w=.ok vs.toArray w:=run_loadCells_list (P:=P) w _ vs fun j u hu=>by
   rw[UU];exact h j u hu
  rw[hl] at hc;simp[loadVar,V9 hg,Q6 hi w,hc]
def Za6 (Γ:Gh) (w:World) (I F A:Nat→Prop) (hp:Hp):Prop:=∀ id o,lkp hp id=some o→Wa Γ w I F A id o
theorem QE.drop {b o:Nat} {vs:List Value} (h:QE w b o vs) (n:Nat):QE w b (o+n) (vs.drop n):=fun j u hu=>by
 have:=h (n+j) u (by simpa [Ll] using hu);simpa [Li] using this
theorem QE.take {b o:Nat} {vs:List Value} (h:QE w b o vs) (n:Nat):QE w b o (vs.take n):=fun j u hu=>by
 rw[Lg] at hu;split at hu
 ·exact h j u hu
 ·cases hu
theorem Zg4 {b:Nat} {cur:Array Value} {e:TypeId} {fr:Nat×Nat} (h:w.heap[b]?=some (.cells cur e fr)):QE w b 0 cur.toList:=fun j u hu=>by
 rw[cell_of_row w b _ cur e fr h];simpa using hu
theorem Xy.drop {S:Nat→Prop} {ds:List D} {vs:List Value} (h:Xy w S ds vs) (n:Nat):Xy w S (ds.drop n) (vs.drop n):=Xu.2 ((Xu.1 h).drop n)
theorem Xy.take {S:Nat→Prop} {ds:List D} {vs:List Value} (h:Xy w S ds vs) (n:Nat):Xy w S (ds.take n) (vs.take n):=Xu.2 ((Xu.1 h).take n)
theorem ZoW {t:TypeId} {g:Bool} (hg:Ze7 P t=some g) {b o off:Nat} {cs:List D} {vs:List Value} (hr:Xy w I cs vs) (h:QE w b o vs) {r:AV} (hp:Zeh g (P.cellsOf t) off cs=some r) :
  ∃ u,(loadVar t ⟨b,o+off,none⟩).run P w=.ok u w∧Rep Γ w I r u:=by
 unfold Zeh at hp;cases g
 ·simp only[Ka,Kq,asD] at hp;obtain⟨d,hd,hp⟩:=Za hp;cases hp;obtain⟨u,hu,h1,h2⟩:=(Xu.1 hr).get off d hd;have:=h off u hu;exact⟨u,by simp[loadVar,V9 hg,this],QF.2 ((XE.one h1).2 h2)⟩
 ·simp only[Km] at hp;split at hp
  ·rename_i hl;cases hp;obtain⟨u,h1,h2⟩:=ZmG (P:=P) hg (h:=(h.drop off).take (P.cellsOf t)) (by rw[Lo,LC,← hr.length];omega) (fun h=>by cases h);simp only[Km] at h2;subst h2;exact⟨_,h1,QF.2 ⟨_,rfl,by simpa using (hr.drop off).take (P.cellsOf t)⟩⟩
  ·cases hp
variable {F A:Nat→Prop} {hp:Hp}
theorem ZoX {id sz n c i:Nat} {a:Option Addr} {xs:List D} {ex fz:Bool} (h:Zfe w I F A a n c sz xs ex fz) {x:D} (hx:xs[i]?=some x) :
  ∃ g vs,a=some ⟨g,0,none⟩∧vs.length=sz∧QE w g (i*sz) vs∧ZQ w I x vs:=by
 obtain⟨h1,h2⟩:=h;rcases h2 with ⟨h2,_⟩ | ⟨g,cur,e,ha,_,_,_,_,_,_,_,_,hr⟩
 ·have:xs=[]:=Ks (by omega);subst this;simp at hx
 ·obtain⟨vs,h3,h4,h5⟩:=Ya.1 hr i x hx;refine⟨g,vs,ha,h3,by simpa using h4,?_⟩;cases ex
  ·exact h5
  ·exact h5.mono ⟨fun b hb=>hb.1,fun _ _=>rfl⟩
theorem ZvH {ns:Nat} {y:D} {v:Value} (h:WK w I F A ns y v) (hy:∀ ys,y≠.sl ys):y.plain=true∧ZQ w I y [v]:=by
 cases y<;>first | exact h | exact absurd rfl (hy _)
theorem ZcP {sz ns n c i:Nat} {a:Option Addr} {xs:List D} (h:Zdf w I F A a n c sz ns xs) {x:D} (hx:xs[i]?=some x) :
  ∃ g vs,a=some ⟨g,0,none⟩∧vs.length=sz∧QE w g (i*sz) vs∧Zu (WK w I F A ns) x.cells vs:=by
 obtain⟨h1,h2⟩:=h;rcases h2 with ⟨h2,_⟩ | ⟨g,cur,e,ha,_,_,_,_,_,_,_,_,hr,_⟩
 ·have:xs=[]:=Ks (by omega);subst this;simp at hx
 ·obtain⟨vs,h3,h4,h5⟩:=hr i x hx;exact⟨g,vs,ha,h3,h4,h5⟩
theorem ZzL {x:AV} {v:Value} (h:XO Γ w I x v):XO Γ w I (Zj8 x) v:=by
 cases x with
 | bbuf _ _=>trivial
 | _=>exact h
theorem ZvI {t:TypeId} {g:Bool} (hg:Ze7 P t=some g) (ho:Za6 Γ w I F A hp) {x r:AV} {v:Value} (h:Rep Γ w I x v) (hp' : UV hp g (P.cellsOf t) x=some r) :
  ∃ u,(Instr.loadAt t v).run P w=.ok u w∧Rep Γ w I r u:=by
 unfold UV at hp';split at hp'
 ·rename_i id off;obtain⟨b,hb,rfl⟩:=h;unfold Zbv at hp';split at hp'
  ·rename_i cs hl;obtain⟨b',cur,e,aa,hw,_,_,hc,_⟩:=ho id _ hl;rw[hb] at aa;cases aa;have ab:=Zg4 hw;cases g
   ·simp only[Ka,Kq] at hp';obtain⟨r0,ae,rfl⟩:=Option.map_eq_some_iff.1 hp';obtain⟨u,hu,h1⟩:=hc.get off r0 ae;have:=ab off u hu;exact⟨u,by simp only[La] at this;simp[Instr.loadAt,Instr.sureAddr,loadVar,V9 hg,this],(ZzL h1).rep2.rep⟩
   ·simp only[Km] at hp';split at hp'
    ·cases hp';obtain⟨u,h1,h2⟩:=ZmG (P:=P) hg (h:=(ab.drop off).take (P.cellsOf t)) (by rw[Lo,LC,← hc.length];omega) (fun h=>by cases h);simp only[Km] at h2;subst h2;refine⟨_,by simpa [Instr.loadAt,Instr.sureAddr] using h1,Zif ?_⟩;simpa using (hc.drop off).take (P.cellsOf t)
    ·cases hp'
  ·cases hp'
 ·rename_i id sz i off;obtain⟨b,n,c,hb,hi,rfl⟩:=h;unfold Zbw at hp';split at hp'
  ·rename_i af xs ex fz hl;split at hp'
   ·rename_i ad;subst ad;obtain⟨a,n',c',aa,ag⟩:=ho id _ hl;rw[hb] at aa;cases aa;obtain⟨y,hy,hp'⟩:=Za hp';obtain⟨g',vs,ha,h3,h4,h5⟩:=ZoX (id:=id) ag hy;cases ha;unfold Zj9 at hp';split at hp'
    ·have:=ZoW (P:=P) (Γ:=Γ) hg h5.cells h4 hp';obtain⟨u,h6,h7⟩:=this;exact⟨u,by simpa [Instr.loadAt,Instr.sureAddr] using h6,h7⟩
    ·cases hp'
   ·cases hp'
  ·rename_i af ns xs lk hl;split at hp'
   ·rename_i ad;subst ad;cases g
    ·simp only[Ka,Kq] at hp';obtain⟨a,n',c',aa,hd,ah⟩:=ho id _ hl;rw[hb] at aa;cases aa;obtain⟨y,hy,hq⟩:=Za hp';clear hp';obtain⟨g',vs,ha,h3,h4,h5⟩:=ZcP hd hy;cases ha;unfold Ze1 at hq;split at hq
     ·unfold ZvK at hq;split at hq
      ·split at hq
       ·rename_i hc;obtain⟨rfl,rfl⟩:=hc;cases hq;obtain⟨g2,a2,n2,c2,s2,ai,h6,h7,h8,h9⟩:=ah;cases ai;exact⟨_,by simp[Instr.loadAt,Instr.sureAddr,loadVar,V9 hg,h9],⟨⟨_,hb⟩,a2,n2,c2,s2,h6,rfl⟩⟩
       ·cases hq
      ·cases hq
     ·rename_i y' aj ak;split at hq
      ·cases hq;obtain⟨u,hu,h6⟩:=h5.get off y' ak;have:=h4 off u hu;have h7:=ZvH h6 fun ys e=>aj ys e;exact⟨u,by simp[Instr.loadAt,Instr.sureAddr,loadVar,V9 hg,this],QF.2 ((XE.one (by cases y' <;> simp_all [D.plain,D.one])).2 h7.2)⟩
      ·cases hq
     ·cases hq
    ·simp only[Km] at hp';cases hp'
   ·cases hp'
  ·cases hp'
 ·rename_i cs;obtain⟨b,o,vs,rfl,hI,ab,hr⟩:=h;obtain⟨u,h6,h7⟩:=ZoW (P:=P) (Γ:=Γ) hg hr ab hp';exact⟨u,by simpa [Instr.loadAt,Instr.sureAddr] using h6,h7⟩
 ·cases hp'
theorem ZsO {off:Nat} {x:AV} {v:Value} {ce:Zd} (h:Rep Γ w I x v) (hp:VR off x=some ce) :
  ∃ b o r,v=.pointer (some ⟨b,o,none⟩)∧ce = { eff := { val:=r },gone:=[] }∧Rep Γ w I r (.pointer (some ⟨b,o+off,none⟩)):=by
 unfold VR at hp;split at hp
 ·obtain⟨b,hb,rfl⟩:=h;cases hp;exact⟨b.1,_,_,rfl,rfl,b,hb,rfl⟩
 ·obtain⟨b,n,c,hb,hi,rfl⟩:=h;cases hp;exact⟨b,_,_,rfl,rfl,b,n,c,hb,hi,by rw[Li]⟩
 ·obtain⟨b,o,vs,rfl,hI,aa,hr⟩:=h;cases hp;exact⟨b,_,_,rfl,rfl,b,o+off,vs.drop off,rfl,hI,aa.drop off,hr.drop off⟩
 ·cases hp
theorem ZzM {s:TypeId} {f:Nat} {q:Nat×TypeId} (hq:ZfN P s f=some q) {x:AV} {v:Value} {ce:Zd} (h:Rep Γ w I x v) (hp:VR q.1 x=some ce) :
  ∃ u r,(Instr.fieldAt s v f).run P w=.ok u w∧ce = { eff := { val:=r },gone:=[] }∧Rep Γ w I r u:=by
 obtain⟨fs,y,h1,h2,h3,h4,h5⟩:=Zg3 hq;obtain⟨b,o,r,rfl,h6,h7⟩:=ZsO h hp;obtain⟨i,hi⟩:=ZiN h5;refine⟨_,r,?_,h6,h7⟩;simp[Instr.fieldAt,run_underlying h1,h2,Instr.sureAddr,fieldPlace,h4,Q6 hi,h5,UU,h3]
theorem ZzN {t:TypeId} {a:Nat×TypeId} (ha:Zjh P t=some a) (hi:∃ i,P.info? a.2=some i) {x y:AV} {v k:Value} {n:Int} (h:Rep Γ w I x v) (hk:Rep Γ w I y k) (hn:idx y=some n) {ce:Zd}
  (hp:ZmI x n a.1 (P.cellsOf a.2)=some ce):∃ u r,(Instr.indexAt t v k).run P w=.ok u w∧ce = { eff := { val:=r },gone:=[] }∧Rep Γ w I r u:=by
 obtain⟨kk,rfl⟩:=Jn hn hk;obtain⟨i,hi⟩:=hi;unfold ZmI at hp;split at hp
 ·rename_i hb;obtain⟨b,o,r,rfl,h6,h7⟩:=ZsO h hp;refine⟨_,r,?_,h6,h7⟩;simp[Instr.indexAt,asIntOf,run_underlying (ZsM ha),Instr.sureAddr,hb.1,hb.2,Q6 hi,UU]
 ·cases hp
theorem Zrc {sz n:Nat} (ho:Za6 Γ w I F A hp) {x r:AV} {v:Value} (h:Rep Γ w I x v) (hp' : QB hp sz n x=some r) :
  ∃ b o m c,v=.slice (some ⟨b,o,none⟩) m c∧n<m∧Rep Γ w I r (.pointer (some ⟨b,o+n*sz,none⟩)):=by
 unfold QB at hp';split at hp'
 ·rename_i xs;obtain⟨y,hy,hp'⟩:=Za hp';have:=QF.1 h;simp only[XE,ZQ] at this;obtain⟨a,c,hv,hc,h1⟩:=this;simp at hv;subst hv;have ad:n<xs.length:=(Kb.1 hy).1;rcases h1 with h1 | ⟨b,o,af,rfl,hI,h0,hr⟩
  ·subst h1;simp at hy
  ·obtain⟨vs,h3,h4,h5⟩:=Ya.1 hr n y hy;unfold ZyK at hp';split at hp'
   ·rename_i ag;cases hp';have:af=sz:=by rw[← h3,h5.length,ag]
    subst this;exact⟨b,o,_,c,rfl,ad,b,_,vs,rfl,hI,h4,h5.cells⟩
   ·cases hp'
 ·rename_i id;obtain⟨a,m,c,af,hb,rfl⟩:=h;unfold ZdX at hp';split at hp'
  ·rename_i ae xs ex fz hl;split at hp'
   ·rename_i hc;cases hp';obtain⟨rfl,ad⟩:=hc;obtain⟨a',n',c',aa,ab⟩:=ho id _ hl;rw[hb] at aa;cases aa;obtain⟨y,hy⟩:∃ y,xs[n]?=some y:=⟨_,Kn ad⟩
    obtain⟨g',vs,rfl,h3,h4,h5⟩:=ZoX (id:=id) ab hy;have hm:m=xs.length:=ab.1;exact⟨g',0,m,c,rfl,by omega,g',m,c,hb,by omega,by simp⟩
   ·cases hp'
  ·rename_i ae ns xs lk hl;split at hp'
   ·rename_i hc;cases hp';obtain⟨rfl,ad⟩:=hc;obtain⟨a',n',c',aa,ab,_⟩:=ho id _ hl;rw[hb] at aa;cases aa;obtain⟨y,hy⟩:∃ y,xs[n]?=some y:=⟨_,Kn ad⟩
    obtain⟨g',vs,rfl,h3,h4,h5⟩:=ZcP ab hy;have hm:m=xs.length:=ab.1;exact⟨g',0,m,c,rfl,by omega,g',m,c,hb,by omega,by simp⟩
   ·cases hp'
  ·cases hp'
 ·rename_i id off m;obtain⟨a0,m',c,af,a,hb,h1,h2,rfl,h3,h4⟩:=h;unfold Zc4 at hp';split at hp'
  ·rename_i ae xs ex fz hl;split at hp'
   ·rename_i hc;cases hp';obtain⟨rfl,ad⟩:=hc;obtain⟨a',n',c',aa,ab⟩:=ho id _ hl;rw[hb] at aa;cases aa;have hm:m'=xs.length:=ab.1;obtain⟨y,hy⟩:∃ y,xs[off+n]?=some y:=⟨_,Kn (by omega)⟩
    obtain⟨g',vs,rfl,h5,h6,h7⟩:=ZoX (id:=id) ab hy;rcases h4 with h4 | h4
    ·subst h4;refine⟨g',off*af,m,c-off,by simp[UU],ad,g',m',c,hb,by omega,?_⟩;rw[KH];simp
    ·omega
   ·cases hp'
  ·cases hp'
 ·cases hp'
theorem ZzO {t e:TypeId} (he:Yn P t=some e) (hi:∃ i,P.info? e=some i) (ho:Za6 Γ w I F A hp) {x y r:AV} {v k:Value} {n:Int} (h:Rep Γ w I x v) (hk:Rep Γ w I y k) (hn:idx y=some n)
  (h0:0≤n) (hp' : QB hp (P.cellsOf e) n.toNat x=some r):∃ u,(Instr.indexAt t v k).run P w=.ok u w∧Rep Γ w I r u:=by
 obtain⟨kk,rfl⟩:=Jn hn hk;obtain⟨i,hi⟩:=hi;obtain⟨b,o,m,c,rfl,ab,hr⟩:=Zrc ho h hp';have aa : n<(m:Int):=by omega
 exact⟨_,by simp[Instr.indexAt,asIntOf,run_underlying (Q5 he),h0,aa,Q6 hi,UU],hr⟩
end
end Go.Abs
