/- Own text. -/
import Derived.Test.YtnachaiejoflhaaAbsArg
import Derived.Test.YtnachaiejoflhaaAbsOkD
set_option linter.unusedVariables false
set_option linter.unusedSimpArgs false
namespace Go.Abs.L
open Go Go.Abs Go.ChangeShapes Go.WideShapes Go.RowKit
def ZdL (P:Program) (t:TypeId) (es:List D):D:=match P.underlying t with
 | some (.struct _)=>.agg es
 | _=>mkD es
def Zfk (P:Program):List TypeId→List D→Prop
 | [],[]=>True
 | t :: ts,x :: xs=>(∃ n es,x=ZdL P t es∧TyD P n t es)∧Zfk P ts xs
 | _,_=>False
theorem W4 {P:Program} {t:TypeId} {ts:List TypeId}:∀ {xs:List D},Zfk P (t :: ts) xs→∃ n es ys,xs=ZdL P t es :: ys∧TyD P n t es∧Zfk P ts ys
 | [],h=>h.elim
 | x :: xs,⟨⟨n,es,h1,h2⟩,h3⟩=>⟨n,es,xs,by rw[h1],h2,h3⟩
theorem Zoj {P:Program}:∀ {xs:List D},Zfk P [] xs→xs=[]
 | [],_=>rfl
 | _ :: _,h=>h.elim
theorem Zs0 {H:Type} {enc:TypeId×Value→H} {P:Program} {W:World} {sp:Nat→Bool} {ts:List TypeId} (hT:Zli P ts=true) {base:Nat} {t:TypeId} {v:Value} {d:DataW H} {p:List MemPlace} (ht:t∈ts)
  (aa:Value.okWide P W .any base t v) (h:DataW.Trod enc P W 0 sp true t v d p):∃ n es,TyD P n t es∧QF W (fun b=>b<W.heap.size) (ZdL P t es) v:=by
 obtain⟨n,hn⟩:=h;obtain⟨es,h1,h2⟩:=Zhe hT n t _ _ ht hn;refine⟨n,es,h1,?_⟩;have hk:=Kw.1 hT t ht;cases n with
 | zero=>exact h1.elim
 | succ n=>
  cases hu:P.underlying t with
  | none=>rw[hu] at hk;cases hk
  | some k=>
   rw[hu] at hk;simp only[TyD,hu] at h1;cases k with
   | struct fs=>
    simp only[ZdL,hu,QF];simp only[Value.okWide,hu] at aa;obtain⟨cs,rfl,_⟩:=aa;exact⟨cs,rfl,by simpa [Value.cells] using h2⟩
   | bool=>
    obtain⟨b,rfl⟩:=okWide_bool hu aa;obtain⟨b',rfl⟩:=h1;simp only[ZdL,hu,mkD,QF];have:=ZbU h2;simpa [Value.cells,mkD] using this
   | int k=>
    obtain⟨b,rfl⟩:=okWide_int hu aa;obtain⟨b',rfl,_⟩:=h1;simp only[ZdL,hu,mkD,QF];have:=ZbU h2;simpa [Value.cells,mkD] using this
   | string=>
    obtain⟨b,rfl⟩:=okWide_string hu aa;obtain⟨b',rfl,_⟩:=h1;simp only[ZdL,hu,mkD,QF];have:=ZbU h2;simpa [Value.cells,mkD] using this
   | slice e=>
    obtain⟨a,l,c,rfl⟩:=okWide_slice hu aa;obtain⟨b',rfl,_⟩:=h1;simp only[ZdL,hu,mkD,QF];have:=ZbU h2;simpa [Value.cells,mkD] using this
   | _=>cases hk
theorem ZmB {H:Type} {enc:TypeId×Value→H} {P:Program} {W:World} {sp:Nat→Bool} {T:List TypeId} (hT:Zli P T=true) {base:Nat}:∀ {ts:List TypeId} {vs:List Value} {ds:List (DataW H)} {p:List MemPlace},
  (∀ t∈ts,t∈T)→(∀ (j:Nat) t v,ts[j]?=some t→vs[j]?=some v→Value.okWide P W .any base t v)→DataW.TrodAll enc P W 0 sp true ts vs ds p →
  ∃ xs,Zfk P ts xs∧Zp (QF W (fun b=>b<W.heap.size)) xs vs
 | [],[],[],p,_,_,_=>⟨[],trivial,trivial⟩
 | t :: ts,v :: vs,d :: ds,p,hm,hval,h=>by
  obtain⟨q,r,h1,h2,_⟩:=h;obtain⟨n,es,g1,g2⟩:=Zs0 hT (hm t (by simp)) (hval 0 t v rfl rfl) h1;obtain⟨xs,g3,g4⟩:=ZmB hT (ts:=ts) (vs:=vs) (fun t ht=>hm t (by simp[ht])) (fun j t v ht hv=>hval (j+1) t v (by simpa using ht) (by simpa using hv)) h2;exact⟨_ :: xs,⟨⟨n,es,rfl,g1⟩,g3⟩,g2,g4⟩
 | [],_ :: _,_,_,_,_,h=>h.elim
 | [],[],_ :: _,_,_,_,h=>h.elim
 | _ :: _,[],_,_,_,_,h=>h.elim
 | _ :: _,_ :: _,[],_,_,_,h=>h.elim
theorem Zok {P:Program} {X:Fns} {M:Zj} (hS:Qb P (Zh X M)) {f:FuncId} {xs:List D} (hv:Zh X M f (xs.map .d) []=some (.d (.bool true),[]))
  {W:World} (hG:Zd4 (fun b=>b<W.heap.size) W) {vs:Array Value} (hr:Zp (QF W (fun b=>b<W.heap.size)) xs vs.toList) :
  Calls P f vs W fun e W'=>e=.returned (.bool true)∧Below W.heap.size W W':=by
 obtain⟨_,hs⟩:=hS _ _ _ _ _ hv;have h:=hs (fun b=>W.heap.size≤b) (fun b=>W.heap.size≤b) (fun b=>b<W.heap.size) (fun _=>none) vs.toList W
  ⟨Zp.map_left (f:=AV.d) (fun a b ab=>QL.2 ab) hr,fun id o hl=>(by cases hl),fun i j o o' b hi=>(by cases hi),fun b hb=>hb,fun b hb=>hb,fun b hb=>hb,fun _ _=>rfl,hG⟩
 rw[show vs.toList.toArray=vs by simp] at h;refine h.mono fun e W' ⟨v',I',Γ',he,hb⟩=>?_;subst he;have aa:=QL.1 hb.res;have e1:v'=.bool true:=by
  have:[v']=[Value.bool true]:=aa;simpa using this
 subst e1;exact⟨rfl,⟨hb.fr.os,hb.fr.tape,hb.fr.output,hb.fr.size,fun k hk=>hb.fr.block k hk (by omega)⟩⟩
theorem Zdp {H:Type} {enc:TypeId×Value→H} {P:Program} (hl:laidOutB P=true) {W W' : World} (hn:Below W.heap.size W W'):∀ {ts:List TypeId} {vs:List Value} {ds:List (DataW H)} {p:List MemPlace},
  (∀ t∈ts,P.readableRec t=true∧t<P.types.size)→(∀ x∈p,x.block<W.heap.size)→DataW.TrodAll enc P W 0 (fun _=>true) true ts vs ds p→DataW.TrodAll enc P W' 0 (fun b=>decide (b<W.heap.size)) true ts vs ds p
 | [],[],[],p,_,_,h=>h
 | t :: ts,v :: vs,d :: ds,p,hm,hlt,h=>by
  obtain⟨q,r,h1,h2,rfl⟩:=h;exact⟨q,r,Below.trod hl (hm t (by simp)).1 (hm t (by simp)).2 h1 hn (fun x hx=>hlt x (by simp[hx])),Zdp hl hn (fun t ht=>hm t (by simp[ht])) (fun x hx=>hlt x (by simp[hx])) h2,rfl⟩
 | [],_ :: _,_,_,_,_,h=>h.elim
 | [],[],_ :: _,_,_,_,h=>h.elim
 | _ :: _,[],_,_,_,_,h=>h.elim
 | _ :: _,_ :: _,[],_,_,_,h=>h.elim
def Z9 (P:Program) (t:TypeId) (tys:List TypeId):Prop:=∃ fs,P.underlying t=some (.struct fs)∧fs.toList.map (·.type)=tys
def TyL (P:Program) (n:Nat):List TypeId→List D→Prop
 | [],ds=>ds=[]
 | t :: r,ds=>∃ p q,ds=p++q∧TyD P n t p∧TyL P n r q
theorem Yu {P:Program} {n:Nat} {t:TypeId} {aa:List TypeId} {ds:List D} (h:Z9 P t aa) (hd:TyD P (n+1) t ds):TyL P n aa ds:=by
 obtain⟨fs,h1,rfl⟩:=h;simp only[TyD,h1] at hd;revert ds
 induction fs.toList with
 | nil=>intro ds hd;exact hd
 | cons f r ih=>
  intro ds hd;obtain⟨p,q,e,h2,h3⟩:=hd;exact⟨p,q,e,h2,ih h3⟩
def Zan (P:Program) {α:Type} (t:TypeId) (enc:α→D) (ok:α→Prop):Prop:=∀ n ds,TyD P n t ds→∃ a,ok a∧ds=(enc a).cells∧ZdL P t ds=enc a∧mkD ds=enc a
theorem Z0 {P:Program} {t:TypeId} (h:P.underlying t=some (.int .i64)):Zan P t encI I64:=by
 intro n ds hd;cases n with
 | zero=>exact hd.elim
 | succ n=>
  simp only[TyD,h] at hd;obtain⟨z,rfl,hw⟩:=hd;refine⟨z,?_,rfl,by simp only[ZdL,h];rfl,rfl⟩;simp[Lit.wf,IntKind.min,IntKind.max,IntKind.signed,IntKind.bits] at hw;unfold I64;omega
theorem ZdM {P:Program} {t:TypeId} (h:P.underlying t=some .bool):Zan P t D.bool (fun _=>True):=by
 intro n ds hd;cases n with
 | zero=>exact hd.elim
 | succ n=>
  simp only[TyD,h] at hd;obtain⟨z,rfl⟩:=hd;exact⟨z,trivial,rfl,by simp only[ZdL,h];rfl,rfl⟩
theorem reads_str {P:Program} {t:TypeId} (h:P.underlying t=some .string):Zan P t D.str (fun s=>s.length≤maxLen):=by
 intro n ds hd;cases n with
 | zero=>exact hd.elim
 | succ n=>
  simp only[TyD,h] at hd;obtain⟨z,rfl,hz⟩:=hd;exact⟨z,hz,rfl,by simp only[ZdL,h];rfl,rfl⟩
theorem Zao {P:Program} {α:Type} {t e:TypeId} {enc:α→D} {ok:α→Prop} (h:P.underlying t=some (.slice e)) (he:Zan P e enc ok):Zan P t (fun l:List α=>.sl (l.map enc)) (fun l=>l.length≤maxLen∧∀ x∈l,ok x):=by
 intro n ds hd;cases n with
 | zero=>exact hd.elim
 | succ n=>
  simp only[TyD,h] at hd;obtain⟨xs,rfl,hl,hx⟩:=hd;have:∃ l:List α,xs=l.map enc∧∀ x∈l,ok x:=by
   clear hl
   induction xs with
   | nil=>exact⟨[],rfl,by simp⟩
   | cons x xs ih=>
    obtain⟨l,h1,h2⟩:=ih fun y hy=>hx y (by simp[hy]);obtain⟨es,h3,h4⟩:=hx x (by simp);obtain⟨a,g1,_,_,g4⟩:=he n es h4;refine⟨a :: l,by rw[h3,g4,h1];rfl,fun y hy=>?_⟩;rcases Kf.1 hy with rfl | hy
    ·exact g1
    ·exact h2 y hy
  obtain⟨l,rfl,h2⟩:=this;exact⟨l,⟨by simpa using hl,h2⟩,rfl,by simp only[ZdL,h];rfl,rfl⟩
section
variable {P:Program} {i b:TypeId} (hi:P.underlying i=some (.int .i64)) (hb:P.underlying b=some .bool)
include hi
omit hi in
theorem XK {t:TypeId} {aa:List TypeId} (h:Z9 P t aa) (ds:List D):ZdL P t ds=.agg ds:=by
 obtain⟨fs,h1,_⟩:=h;simp only[ZdL,h1]
theorem Zkh {t:TypeId} (h:Z9 P t [i,i,i,i]):Zan P t Box.enc Box.ok:=by
 intro n ds hd;cases n with
 | zero=>exact hd.elim
 | succ n=>
  obtain⟨_,_,rfl,h1,_,_,rfl,h2,_,_,rfl,h3,_,_,rfl,h4,rfl⟩:=Yu h hd;obtain⟨a1,g1,rfl,_⟩:=Z0 hi n _ h1;obtain⟨a2,g2,rfl,_⟩:=Z0 hi n _ h2;obtain⟨a3,g3,rfl,_⟩:=Z0 hi n _ h3;obtain⟨a4,g4,rfl,_⟩:=Z0 hi n _ h4;exact⟨⟨a1,a2,a3,a4⟩,⟨g1,g2,g3,g4⟩,rfl,XK h _,rfl⟩
include hb
theorem Zhf {t:TypeId} (h:Z9 P t [i,i,b,i]):Zan P t Pane.enc Pane.ok:=by
 intro n ds hd;cases n with
 | zero=>exact hd.elim
 | succ n=>
  obtain⟨_,_,rfl,h1,_,_,rfl,h2,_,_,rfl,h3,_,_,rfl,h4,rfl⟩:=Yu h hd;obtain⟨a1,g1,rfl,_⟩:=Z0 hi n _ h1;obtain⟨a2,g2,rfl,_⟩:=Z0 hi n _ h2;obtain⟨a3,_,rfl,_⟩:=ZdM hb n _ h3;obtain⟨a4,g4,rfl,_⟩:=Z0 hi n _ h4;exact⟨⟨a1,a2,a3,a4⟩,⟨g1,g2,g4⟩,rfl,XK h _,rfl⟩
theorem Zhg {t p:TypeId} (hp:Z9 P p [i,i,b,i]) (h:Z9 P t [p,i]):Zan P t Zb6.enc Zb6.ok:=by
 intro n ds hd;cases n with
 | zero=>exact hd.elim
 | succ n=>
  obtain⟨_,_,rfl,h1,_,_,rfl,h2,rfl⟩:=Yu h hd;obtain⟨a1,g1,rfl,_⟩:=Zhf hi hb hp n _ h1;obtain⟨a2,g2,rfl,_⟩:=Z0 hi n _ h2;exact⟨⟨a1,a2⟩,⟨g1,g2⟩,rfl,XK h _,rfl⟩
theorem Zol {t s p:TypeId} (hp:Z9 P p [i,i,b,i]) (hs:P.underlying s=some (.slice p)) (h:Z9 P t [i,i,s]):Zan P t Zz.enc Zz.ok:=by
 intro n ds hd;cases n with
 | zero=>exact hd.elim
 | succ n=>
  obtain⟨_,_,rfl,h1,_,_,rfl,h2,_,_,rfl,h3,rfl⟩:=Yu h hd;obtain⟨a1,g1,rfl,_⟩:=Z0 hi n _ h1;obtain⟨a2,g2,rfl,_⟩:=Z0 hi n _ h2;obtain⟨a3,⟨g3,g4⟩,rfl,_⟩:=Zao hs (Zhf hi hb hp) n _ h3;exact⟨⟨a1,a2,a3⟩,⟨g1,g2,g3,g4⟩,rfl,XK h _,rfl⟩
theorem ZtL {t x:TypeId} (hx:Z9 P x [i,i,i,i]) (h:Z9 P t [i,b,x]):Zan P t XZ.enc XZ.ok:=by
 intro n ds hd;cases n with
 | zero=>exact hd.elim
 | succ n=>
  obtain⟨_,_,rfl,h1,_,_,rfl,h2,_,_,rfl,h3,rfl⟩:=Yu h hd;obtain⟨a1,g1,rfl,_⟩:=Z0 hi n _ h1;obtain⟨a2,_,rfl,_⟩:=ZdM hb n _ h2;obtain⟨a3,g3,rfl,_⟩:=Zkh hi hx n _ h3;exact⟨⟨a1,a2,a3⟩,⟨g1,g3⟩,rfl,XK h _,rfl⟩
omit hb in
theorem Zf9 {t s x:TypeId} (hx:Z9 P x [i,i,i,i]) (hs:P.underlying s=some (.slice x)) (h:Z9 P t [i,i,i,s]):Zan P t Zf.enc Zf.ok:=by
 intro n ds hd;cases n with
 | zero=>exact hd.elim
 | succ n=>
  obtain⟨_,_,rfl,h1,_,_,rfl,h2,_,_,rfl,h3,_,_,rfl,h4,rfl⟩:=Yu h hd;obtain⟨a1,g1,rfl,_⟩:=Z0 hi n _ h1;obtain⟨a2,g2,rfl,_⟩:=Z0 hi n _ h2;obtain⟨a3,g3,rfl,_⟩:=Z0 hi n _ h3;obtain⟨a4,⟨g4,g5⟩,rfl,_⟩:=Zao hs (Zkh hi hx) n _ h4;exact⟨⟨a1,a2,a3,a4⟩,⟨g1,g2,g3,g4,g5⟩,rfl,XK h _,rfl⟩
theorem Zuc {t q qs l ls x xs p:TypeId} (hx:Z9 P x [i,i,i,i]) (ab:P.underlying xs=some (.slice x)) (hq:Z9 P q [i,i,i,xs]) (ad:P.underlying qs=some (.slice q))
  (hp:Z9 P p [i,i,b,i]) (hl:Z9 P l [p,i]) (aa:P.underlying ls=some (.slice l)) (h:Z9 P t [qs,ls,ls,i,i]):Zan P t ZlG.enc ZlG.ok:=by
 intro n ds hd;cases n with
 | zero=>exact hd.elim
 | succ n=>
  obtain⟨_,_,rfl,h1,_,_,rfl,h2,_,_,rfl,h3,_,_,rfl,h4,_,_,rfl,h5,rfl⟩:=Yu h hd;obtain⟨a1,g1,rfl,_⟩:=Zao ad (Zf9 hi hx ab hq) n _ h1;obtain⟨a2,g2,rfl,_⟩:=Zao aa (Zhg hi hb hp hl) n _ h2;obtain⟨a3,g3,rfl,_⟩:=Zao aa (Zhg hi hb hp hl) n _ h3;obtain⟨a4,g4,rfl,_⟩:=Z0 hi n _ h4;obtain⟨a5,g5,rfl,_⟩:=Z0 hi n _ h5;exact⟨⟨a1,a2,a3,a4,a5⟩,⟨g1,g2,g3,g4,g5⟩,rfl,XK h _,rfl⟩
theorem Zom {t s:TypeId} (hs:P.underlying s=some (.slice t)) (h:Z9 P t [i,i,i,b,s]):Zan P t Ze.enc Ze.ok:=by
 intro n
 induction n using Nat.strongRecOn with
 | _ n ih=>
  intro ds hd;cases n with
  | zero=>exact hd.elim
  | succ n=>
   obtain⟨_,_,rfl,h1,_,_,rfl,h2,_,_,rfl,h3,_,_,rfl,h4,_,_,rfl,h5,rfl⟩:=Yu h hd;obtain⟨a1,g1,rfl,_⟩:=Z0 hi n _ h1;obtain⟨a2,g2,rfl,_⟩:=Z0 hi n _ h2;obtain⟨a3,g3,rfl,_⟩:=Z0 hi n _ h3;obtain⟨a4,_,rfl,_⟩:=ZdM hb n _ h4;cases n with
   | zero=>exact h5.elim
   | succ n=>
    simp only[TyD,hs] at h5;obtain⟨xs,rfl,hl,hx⟩:=h5;have:∃ l:List Ze,xs=l.map Ze.enc∧∀ x∈l,Ze.ok x:=by
     clear hl hd
     induction xs with
     | nil=>exact⟨[],rfl,by simp⟩
     | cons x xs ih2=>
      obtain⟨l,k1,k2⟩:=ih2 fun y hy=>hx y (by simp[hy]);obtain⟨es,k3,k4⟩:=hx x (by simp);obtain⟨a,g1,_,_,g4⟩:=ih n (by omega) es k4;refine⟨a :: l,by rw[k3,g4,k1];rfl,fun y hy=>?_⟩;rcases Kf.1 hy with rfl | hy
      ·exact g1
      ·exact k2 y hy
    obtain⟨l,rfl,k2⟩:=this;refine⟨.mk a1 a2 a3 a4 l,.mk g1 g2 g3 (by simpa using hl) k2,by rw[Ze.enc_mk];rfl,?_,by rw[Ze.enc_mk];rfl⟩;rw[XK h,Ze.enc_mk];rfl
end
end Go.Abs.L
