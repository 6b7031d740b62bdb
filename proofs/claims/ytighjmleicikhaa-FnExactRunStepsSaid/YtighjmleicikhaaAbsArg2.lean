/- Own text. -/
import Derived.Test.YtighjmleicikhaaAbsArg
import Derived.Test.YtighjmleicikhaaAbsOkD
set_option linter.unusedVariables false
set_option linter.unusedSimpArgs false
namespace Go.Abs.L
open Go Go.Abs Go.ChangeShapes Go.WideShapes Go.RowKit
def ZcH (P:Program) (t:TypeId) (es:List D):D:=match P.underlying t with
 | some (.struct _)=>.agg es
 | _=>mkD es
def Zee (P:Program):List TypeId→List D→Prop
 | [],[]=>True
 | t :: ts,x :: xs=>(∃ n es,x=ZcH P t es∧TyD P n t es)∧Zee P ts xs
 | _,_=>False
theorem ZaZ {P:Program} {t:TypeId} {ts:List TypeId}:∀ {xs:List D},Zee P (t :: ts) xs→∃ n es ys,xs=ZcH P t es :: ys∧TyD P n t es∧Zee P ts ys
 | [],h=>h.elim
 | x :: xs,⟨⟨n,es,h1,h2⟩,h3⟩=>⟨n,es,xs,by rw[h1],h2,h3⟩
theorem Zmu {P:Program}:∀ {xs:List D},Zee P [] xs→xs=[]
 | [],_=>rfl
 | _ :: _,h=>h.elim
theorem Zrx {H:Type} {enc:TypeId×Value→H} {P:Program} {W:World} {sp:Nat→Bool} {ts:List TypeId} (hT:ZjS P ts=true) {base:Nat} {t:TypeId} {v:Value} {d:DataW H} {p:List MemPlace} (ht:t∈ts)
  (aa:Value.okWide P W .any base t v) (h:DataW.Trod enc P W 0 sp true t v d p):∃ n es,TyD P n t es∧QH W (fun b=>b<W.heap.size) (ZcH P t es) v:=by
 obtain⟨n,hn⟩:=h;obtain⟨es,h1,h2⟩:=Zgk hT n t _ _ ht hn;refine⟨n,es,h1,?_⟩;have hk:=Kx.1 hT t ht;cases n with
 | zero=>exact h1.elim
 | succ n=>
  cases hu:P.underlying t with
  | none=>rw[hu] at hk;cases hk
  | some k=>
   rw[hu] at hk;simp only[TyD,hu] at h1;cases k with
   | struct fs=>
    simp only[ZcH,hu,QH];simp only[Value.okWide,hu] at aa;obtain⟨cs,rfl,_⟩:=aa;exact⟨cs,rfl,by simpa [Value.cells] using h2⟩
   | bool=>
    obtain⟨b,rfl⟩:=okWide_bool hu aa;obtain⟨b',rfl⟩:=h1;simp only[ZcH,hu,mkD,QH];have:=ZaY h2;simpa [Value.cells,mkD] using this
   | int k=>
    obtain⟨b,rfl⟩:=okWide_int hu aa;obtain⟨b',rfl,_⟩:=h1;simp only[ZcH,hu,mkD,QH];have:=ZaY h2;simpa [Value.cells,mkD] using this
   | string=>
    obtain⟨b,rfl⟩:=okWide_string hu aa;obtain⟨b',rfl,_⟩:=h1;simp only[ZcH,hu,mkD,QH];have:=ZaY h2;simpa [Value.cells,mkD] using this
   | slice e=>
    obtain⟨a,l,c,rfl⟩:=okWide_slice hu aa;obtain⟨b',rfl,_⟩:=h1;simp only[ZcH,hu,mkD,QH];have:=ZaY h2;simpa [Value.cells,mkD] using this
   | _=>cases hk
theorem Zla {H:Type} {enc:TypeId×Value→H} {P:Program} {W:World} {sp:Nat→Bool} {T:List TypeId} (hT:ZjS P T=true) {base:Nat}:∀ {ts:List TypeId} {vs:List Value} {ds:List (DataW H)} {p:List MemPlace},
  (∀ t∈ts,t∈T)→(∀ (j:Nat) t v,ts[j]?=some t→vs[j]?=some v→Value.okWide P W .any base t v)→DataW.TrodAll enc P W 0 sp true ts vs ds p →
  ∃ xs,Zee P ts xs∧Zn (QH W (fun b=>b<W.heap.size)) xs vs
 | [],[],[],p,_,_,_=>⟨[],trivial,trivial⟩
 | t :: ts,v :: vs,d :: ds,p,hm,hval,h=>by
  obtain⟨q,r,h1,h2,_⟩:=h;obtain⟨n,es,g1,g2⟩:=Zrx hT (hm t (by simp)) (hval 0 t v rfl rfl) h1;obtain⟨xs,g3,g4⟩:=Zla hT (ts:=ts) (vs:=vs) (fun t ht=>hm t (by simp[ht])) (fun j t v ht hv=>hval (j+1) t v (by simpa using ht) (by simpa using hv)) h2;exact⟨_ :: xs,⟨⟨n,es,rfl,g1⟩,g3⟩,g2,g4⟩
 | [],_ :: _,_,_,_,_,h=>h.elim
 | [],[],_ :: _,_,_,_,h=>h.elim
 | _ :: _,[],_,_,_,_,h=>h.elim
 | _ :: _,_ :: _,[],_,_,_,h=>h.elim
theorem Zmv {P:Program} {X:Fns} {M:Zg} (hS:Z7 P (Zj X M)) {f:FuncId} {xs:List D} (hv:Zj X M f (xs.map .d) []=some (.d (.bool true),[]))
  {W:World} (hG:Zc0 (fun b=>b<W.heap.size) W) {vs:Array Value} (hr:Zn (QH W (fun b=>b<W.heap.size)) xs vs.toList) :
  Calls P f vs W fun e W'=>e=.returned (.bool true)∧Below W.heap.size W W':=by
 obtain⟨_,hs⟩:=hS _ _ _ _ _ hv;have h:=hs (fun b=>W.heap.size≤b) (fun b=>W.heap.size≤b) (fun b=>b<W.heap.size) (fun _=>none) vs.toList W
  ⟨Zn.map_left (f:=AV.d) (fun a b ab=>QQ.2 ab) hr,fun id o hl=>(by cases hl),fun i j o o' b hi=>(by cases hi),fun b hb=>hb,fun b hb=>hb,fun b hb=>hb,fun _ _=>rfl,hG⟩
 rw[show vs.toList.toArray=vs by simp] at h;refine h.mono fun e W' ⟨v',I',Γ',he,hb⟩=>?_;subst he;have aa:=QQ.1 hb.res;have e1:v'=.bool true:=by
  have:[v']=[Value.bool true]:=aa;simpa using this
 subst e1;exact⟨rfl,⟨hb.fr.os,hb.fr.tape,hb.fr.output,hb.fr.size,fun k hk=>hb.fr.block k hk (by omega)⟩⟩
theorem Zcb {H:Type} {enc:TypeId×Value→H} {P:Program} (hl:laidOutB P=true) {W W' : World} (hn:Below W.heap.size W W'):∀ {ts:List TypeId} {vs:List Value} {ds:List (DataW H)} {p:List MemPlace},
  (∀ t∈ts,P.readableRec t=true∧t<P.types.size)→(∀ x∈p,x.block<W.heap.size)→DataW.TrodAll enc P W 0 (fun _=>true) true ts vs ds p→DataW.TrodAll enc P W' 0 (fun b=>decide (b<W.heap.size)) true ts vs ds p
 | [],[],[],p,_,_,h=>h
 | t :: ts,v :: vs,d :: ds,p,hm,hlt,h=>by
  obtain⟨q,r,h1,h2,rfl⟩:=h;exact⟨q,r,Below.trod hl (hm t (by simp)).1 (hm t (by simp)).2 h1 hn (fun x hx=>hlt x (by simp[hx])),Zcb hl hn (fun t ht=>hm t (by simp[ht])) (fun x hx=>hlt x (by simp[hx])) h2,rfl⟩
 | [],_ :: _,_,_,_,_,h=>h.elim
 | [],[],_ :: _,_,_,_,h=>h.elim
 | _ :: _,[],_,_,_,_,h=>h.elim
 | _ :: _,_ :: _,[],_,_,_,h=>h.elim
def Qn (P:Program) (t:TypeId) (tys:List TypeId):Prop:=∃ fs,P.underlying t=some (.struct fs)∧fs.toList.map (·.type)=tys
def TyL (P:Program) (n:Nat):List TypeId→List D→Prop
 | [],ds=>ds=[]
 | t :: r,ds=>∃ p q,ds=p++q∧TyD P n t p∧TyL P n r q
theorem Yo {P:Program} {n:Nat} {t:TypeId} {aa:List TypeId} {ds:List D} (h:Qn P t aa) (hd:TyD P (n+1) t ds):TyL P n aa ds:=by
 obtain⟨fs,h1,rfl⟩:=h;simp only[TyD,h1] at hd;revert ds
 induction fs.toList with
 | nil=>intro ds hd;exact hd
 | cons f r ih=>
  intro ds hd;obtain⟨p,q,e,h2,h3⟩:=hd;exact⟨p,q,e,h2,ih h3⟩
def JB (P:Program) {α:Type} (t:TypeId) (enc:α→D) (ok:α→Prop):Prop:=∀ n ds,TyD P n t ds→∃ a,ok a∧ds=(enc a).cells∧ZcH P t ds=enc a∧mkD ds=enc a
theorem Z3 {P:Program} {t:TypeId} (h:P.underlying t=some (.int .i64)):JB P t Wd I64:=by
 intro n ds hd;cases n with
 | zero=>exact hd.elim
 | succ n=>
  simp only[TyD,h] at hd;obtain⟨z,rfl,hw⟩:=hd;refine⟨z,?_,rfl,by simp only[ZcH,h];rfl,rfl⟩;simp[Lit.wf,IntKind.min,IntKind.max,IntKind.signed,IntKind.bits] at hw;unfold I64;omega
theorem ZcI {P:Program} {t:TypeId} (h:P.underlying t=some .bool):JB P t D.bool (fun _=>True):=by
 intro n ds hd;cases n with
 | zero=>exact hd.elim
 | succ n=>
  simp only[TyD,h] at hd;obtain⟨z,rfl⟩:=hd;exact⟨z,trivial,rfl,by simp only[ZcH,h];rfl,rfl⟩
theorem reads_str {P:Program} {t:TypeId} (h:P.underlying t=some .string):JB P t D.str (fun s=>s.length≤maxLen):=by
 intro n ds hd;cases n with
 | zero=>exact hd.elim
 | succ n=>
  simp only[TyD,h] at hd;obtain⟨z,rfl,hz⟩:=hd;exact⟨z,hz,rfl,by simp only[ZcH,h];rfl,rfl⟩
theorem JC {P:Program} {α:Type} {t e:TypeId} {enc:α→D} {ok:α→Prop} (h:P.underlying t=some (.slice e)) (he:JB P e enc ok):JB P t (fun l:List α=>.sl (l.map enc)) (fun l=>l.length≤maxLen∧∀ x∈l,ok x):=by
 intro n ds hd;cases n with
 | zero=>exact hd.elim
 | succ n=>
  simp only[TyD,h] at hd;obtain⟨xs,rfl,hl,hx⟩:=hd;have:∃ l:List α,xs=l.map enc∧∀ x∈l,ok x:=by
   clear hl
   induction xs with
   | nil=>exact⟨[],rfl,by simp⟩
   | cons x xs ih=>
    obtain⟨l,h1,h2⟩:=ih fun y hy=>hx y (by simp[hy]);obtain⟨es,h3,h4⟩:=hx x (by simp);obtain⟨a,g1,_,_,g4⟩:=he n es h4;refine⟨a :: l,by rw[h3,g4,h1];rfl,fun y hy=>?_⟩;rcases Ke.1 hy with rfl | hy
    ·exact g1
    ·exact h2 y hy
  obtain⟨l,rfl,h2⟩:=this;exact⟨l,⟨by simpa using hl,h2⟩,rfl,by simp only[ZcH,h];rfl,rfl⟩
section
variable {P:Program} {i b:TypeId} (hi:P.underlying i=some (.int .i64)) (hb:P.underlying b=some .bool)
include hi
omit hi in
theorem XH {t:TypeId} {aa:List TypeId} (h:Qn P t aa) (ds:List D):ZcH P t ds=.agg ds:=by
 obtain⟨fs,h1,_⟩:=h;simp only[ZcH,h1]
theorem Ziv {t:TypeId} (h:Qn P t [i,i,i,i]):JB P t Box.enc Box.ok:=by
 intro n ds hd;cases n with
 | zero=>exact hd.elim
 | succ n=>
  obtain⟨_,_,rfl,h1,_,_,rfl,h2,_,_,rfl,h3,_,_,rfl,h4,rfl⟩:=Yo h hd;obtain⟨a1,g1,rfl,_⟩:=Z3 hi n _ h1;obtain⟨a2,g2,rfl,_⟩:=Z3 hi n _ h2;obtain⟨a3,g3,rfl,_⟩:=Z3 hi n _ h3;obtain⟨a4,g4,rfl,_⟩:=Z3 hi n _ h4;exact⟨⟨a1,a2,a3,a4⟩,⟨g1,g2,g3,g4⟩,rfl,XH h _,rfl⟩
include hb
theorem Zgl {t:TypeId} (h:Qn P t [i,i,b,i]):JB P t Pane.enc Pane.ok:=by
 intro n ds hd;cases n with
 | zero=>exact hd.elim
 | succ n=>
  obtain⟨_,_,rfl,h1,_,_,rfl,h2,_,_,rfl,h3,_,_,rfl,h4,rfl⟩:=Yo h hd;obtain⟨a1,g1,rfl,_⟩:=Z3 hi n _ h1;obtain⟨a2,g2,rfl,_⟩:=Z3 hi n _ h2;obtain⟨a3,_,rfl,_⟩:=ZcI hb n _ h3;obtain⟨a4,g4,rfl,_⟩:=Z3 hi n _ h4;exact⟨⟨a1,a2,a3,a4⟩,⟨g1,g2,g4⟩,rfl,XH h _,rfl⟩
theorem Zgm {t p:TypeId} (hp:Qn P p [i,i,b,i]) (h:Qn P t [p,i]):JB P t Zbb.enc Zbb.ok:=by
 intro n ds hd;cases n with
 | zero=>exact hd.elim
 | succ n=>
  obtain⟨_,_,rfl,h1,_,_,rfl,h2,rfl⟩:=Yo h hd;obtain⟨a1,g1,rfl,_⟩:=Zgl hi hb hp n _ h1;obtain⟨a2,g2,rfl,_⟩:=Z3 hi n _ h2;exact⟨⟨a1,a2⟩,⟨g1,g2⟩,rfl,XH h _,rfl⟩
theorem Zmw {t s p:TypeId} (hp:Qn P p [i,i,b,i]) (hs:P.underlying s=some (.slice p)) (h:Qn P t [i,i,s]):JB P t Q7.enc Q7.ok:=by
 intro n ds hd;cases n with
 | zero=>exact hd.elim
 | succ n=>
  obtain⟨_,_,rfl,h1,_,_,rfl,h2,_,_,rfl,h3,rfl⟩:=Yo h hd;obtain⟨a1,g1,rfl,_⟩:=Z3 hi n _ h1;obtain⟨a2,g2,rfl,_⟩:=Z3 hi n _ h2;obtain⟨a3,⟨g3,g4⟩,rfl,_⟩:=JC hs (Zgl hi hb hp) n _ h3;exact⟨⟨a1,a2,a3⟩,⟨g1,g2,g3,g4⟩,rfl,XH h _,rfl⟩
theorem Zsh {t x:TypeId} (hx:Qn P x [i,i,i,i]) (h:Qn P t [i,b,x]):JB P t Vp.enc Vp.ok:=by
 intro n ds hd;cases n with
 | zero=>exact hd.elim
 | succ n=>
  obtain⟨_,_,rfl,h1,_,_,rfl,h2,_,_,rfl,h3,rfl⟩:=Yo h hd;obtain⟨a1,g1,rfl,_⟩:=Z3 hi n _ h1;obtain⟨a2,_,rfl,_⟩:=ZcI hb n _ h2;obtain⟨a3,g3,rfl,_⟩:=Ziv hi hx n _ h3;exact⟨⟨a1,a2,a3⟩,⟨g1,g3⟩,rfl,XH h _,rfl⟩
omit hb in
theorem Zlb {t s x:TypeId} (hx:Qn P x [i,i,i,i]) (hs:P.underlying s=some (.slice x)) (h:Qn P t [i,i,i,s]):JB P t XC.enc XC.ok:=by
 intro n ds hd;cases n with
 | zero=>exact hd.elim
 | succ n=>
  obtain⟨_,_,rfl,h1,_,_,rfl,h2,_,_,rfl,h3,_,_,rfl,h4,rfl⟩:=Yo h hd;obtain⟨a1,g1,rfl,_⟩:=Z3 hi n _ h1;obtain⟨a2,g2,rfl,_⟩:=Z3 hi n _ h2;obtain⟨a3,g3,rfl,_⟩:=Z3 hi n _ h3;obtain⟨a4,⟨g4,g5⟩,rfl,_⟩:=JC hs (Ziv hi hx) n _ h4;exact⟨⟨a1,a2,a3,a4⟩,⟨g1,g2,g3,g4,g5⟩,rfl,XH h _,rfl⟩
theorem ZsI {t q qs l ls x xs p:TypeId} (hx:Qn P x [i,i,i,i]) (ab:P.underlying xs=some (.slice x)) (hq:Qn P q [i,i,i,xs]) (ad:P.underlying qs=some (.slice q))
  (hp:Qn P p [i,i,b,i]) (hl:Qn P l [p,i]) (aa:P.underlying ls=some (.slice l)) (h:Qn P t [qs,ls,ls,i,i]):JB P t Zkg.enc Zkg.ok:=by
 intro n ds hd;cases n with
 | zero=>exact hd.elim
 | succ n=>
  obtain⟨_,_,rfl,h1,_,_,rfl,h2,_,_,rfl,h3,_,_,rfl,h4,_,_,rfl,h5,rfl⟩:=Yo h hd;obtain⟨a1,g1,rfl,_⟩:=JC ad (Zlb hi hx ab hq) n _ h1;obtain⟨a2,g2,rfl,_⟩:=JC aa (Zgm hi hb hp hl) n _ h2;obtain⟨a3,g3,rfl,_⟩:=JC aa (Zgm hi hb hp hl) n _ h3;obtain⟨a4,g4,rfl,_⟩:=Z3 hi n _ h4;obtain⟨a5,g5,rfl,_⟩:=Z3 hi n _ h5;exact⟨⟨a1,a2,a3,a4,a5⟩,⟨g1,g2,g3,g4,g5⟩,rfl,XH h _,rfl⟩
theorem Zmx {t s:TypeId} (hs:P.underlying s=some (.slice t)) (h:Qn P t [i,i,i,b,s]):JB P t Ze.enc Ze.ok:=by
 intro n
 induction n using Nat.strongRecOn with
 | _ n ih=>
  intro ds hd;cases n with
  | zero=>exact hd.elim
  | succ n=>
   obtain⟨_,_,rfl,h1,_,_,rfl,h2,_,_,rfl,h3,_,_,rfl,h4,_,_,rfl,h5,rfl⟩:=Yo h hd;obtain⟨a1,g1,rfl,_⟩:=Z3 hi n _ h1;obtain⟨a2,g2,rfl,_⟩:=Z3 hi n _ h2;obtain⟨a3,g3,rfl,_⟩:=Z3 hi n _ h3;obtain⟨a4,_,rfl,_⟩:=ZcI hb n _ h4;cases n with
   | zero=>exact h5.elim
   | succ n=>
    simp only[TyD,hs] at h5;obtain⟨xs,rfl,hl,hx⟩:=h5;have:∃ l:List Ze,xs=l.map Ze.enc∧∀ x∈l,Ze.ok x:=by
     clear hl hd
     induction xs with
     | nil=>exact⟨[],rfl,by simp⟩
     | cons x xs ih2=>
      obtain⟨l,k1,k2⟩:=ih2 fun y hy=>hx y (by simp[hy]);obtain⟨es,k3,k4⟩:=hx x (by simp);obtain⟨a,g1,_,_,g4⟩:=ih n (by omega) es k4;refine⟨a :: l,by rw[k3,g4,k1];rfl,fun y hy=>?_⟩;rcases Ke.1 hy with rfl | hy
      ·exact g1
      ·exact k2 y hy
    obtain⟨l,rfl,k2⟩:=this;refine⟨.mk a1 a2 a3 a4 l,.mk g1 g2 g3 (by simpa using hl) k2,by rw[Ze.enc_mk];rfl,?_,by rw[Ze.enc_mk];rfl⟩;rw[XH h,Ze.enc_mk];rfl
end
end Go.Abs.L
