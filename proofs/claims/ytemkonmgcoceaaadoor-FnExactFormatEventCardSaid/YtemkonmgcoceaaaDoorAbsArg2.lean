/- Arguments of a law as data of the program's types,and the law's call. Own text. -/
import Derived.Test.YtemkonmgcoceaaaDoorAbsArg
import Derived.Test.YtemkonmgcoceaaaDoorAbsOkD
set_option linter.unusedVariables false
set_option linter.unusedSimpArgs false
namespace Go.Abs.L
open Go Go.Abs Go.ChangeShapes Go.WideShapes Go.RowKit
def ZcA (P:Program) (t:TypeId) (es:List D):D:=match P.underlying t with
 | some (.struct _)=>.agg es
 | _=>mkD es
def ZcB (P:Program):List TypeId→List D→Prop
 | [],[]=>True
 | t :: ts,x :: xs=>(∃ n es,x=ZcA P t es∧TyD P n t es)∧ZcB P ts xs
 | _,_=>False
theorem ZeY {P:Program} {t:TypeId} {ts:List TypeId}:∀ {xs:List D},ZcB P (t :: ts) xs→∃ n es ys,xs=ZcA P t es :: ys∧TyD P n t es∧ZcB P ts ys
 | [],h=>h.elim
 | x :: xs,⟨⟨n,es,h1,h2⟩,h3⟩=>⟨n,es,xs,by rw[h1],h2,h3⟩
theorem Zf8 {P:Program}:∀ {xs:List D},ZcB P [] xs→xs=[]
 | [],_=>rfl
 | _ :: _,h=>h.elim
theorem Zp6 {H:Type} {enc:TypeId×Value→H} {P:Program} {W:World} {sp:Nat→Bool} {ts:List TypeId} (hT:Zf6 P ts=true) {base:Nat} {t:TypeId} {v:Value} {d:DataW H} {p:List MemPlace} (ht:t∈ts)
  (hval:Value.okWide P W .any base t v) (h:DataW.Trod enc P W 0 sp true t v d p):∃ n es,TyD P n t es∧QD W (fun b=>b<W.heap.size) (ZcA P t es) v:=by
 obtain⟨n,hn⟩:=h
 obtain⟨es,h1,h2⟩:=Zf7 hT n t _ _ ht hn
 refine⟨n,es,h1,?_⟩
 have hk:=List.all_eq_true.1 hT t ht
 cases n with
 | zero=>exact h1.elim
 | succ n=>
  cases hu:P.underlying t with
  | none=>rw[hu] at hk;cases hk
  | some k=>
   rw[hu] at hk
   simp only[TyD,hu] at h1
   cases k with
   | struct fs=>
    simp only[ZcA,hu,QD]
    simp only[Value.okWide,hu] at hval
    obtain⟨cs,rfl,_⟩:=hval
    exact⟨cs,rfl,by simpa [Value.cells] using h2⟩
   | bool=>
    obtain⟨b,rfl⟩:=okWide_bool hu hval
    obtain⟨b',rfl⟩:=h1
    simp only[ZcA,hu,mkD,QD]
    have:=Zbf h2
    simpa [Value.cells,mkD] using this
   | int k=>
    obtain⟨b,rfl⟩:=okWide_int hu hval
    obtain⟨b',rfl,_⟩:=h1
    simp only[ZcA,hu,mkD,QD]
    have:=Zbf h2
    simpa [Value.cells,mkD] using this
   | string=>
    obtain⟨b,rfl⟩:=okWide_string hu hval
    obtain⟨b',rfl,_⟩:=h1
    simp only[ZcA,hu,mkD,QD]
    have:=Zbf h2
    simpa [Value.cells,mkD] using this
   | slice e=>
    obtain⟨a,l,c,rfl⟩:=okWide_slice hu hval
    obtain⟨b',rfl,_⟩:=h1
    simp only[ZcA,hu,mkD,QD]
    have:=Zbf h2
    simpa [Value.cells,mkD] using this
   | _=>cases hk
theorem Zf9 {H:Type} {enc:TypeId×Value→H} {P:Program} {W:World} {sp:Nat→Bool} {T:List TypeId} (hT:Zf6 P T=true) {base:Nat}:∀ {ts:List TypeId} {vs:List Value} {ds:List (DataW H)} {p:List MemPlace},
  (∀ t∈ts,t∈T)→(∀ (j:Nat) t v,ts[j]?=some t→vs[j]?=some v→Value.okWide P W .any base t v)→DataW.TrodAll enc P W 0 sp true ts vs ds p →
  ∃ xs,ZcB P ts xs∧Zm (QD W (fun b=>b<W.heap.size)) xs vs
 | [],[],[],p,_,_,_=>⟨[],trivial,trivial⟩
 | t :: ts,v :: vs,d :: ds,p,hm,hval,h=>by
  obtain⟨q,r,h1,h2,_⟩:=h
  obtain⟨n,es,g1,g2⟩:=Zp6 hT (hm t (by simp)) (hval 0 t v rfl rfl) h1
  obtain⟨xs,g3,g4⟩:=Zf9 hT (ts:=ts) (vs:=vs) (fun t ht=>hm t (by simp[ht])) (fun j t v ht hv=>hval (j+1) t v (by simpa using ht) (by simpa using hv)) h2
  exact⟨_ :: xs,⟨⟨n,es,rfl,g1⟩,g3⟩,g2,g4⟩
 | [],_ :: _,_,_,_,_,h=>h.elim
 | [],[],_ :: _,_,_,_,h=>h.elim
 | _ :: _,[],_,_,_,_,h=>h.elim
 | _ :: _,_ :: _,[],_,_,_,h=>h.elim
theorem Zga {P:Program} {X:Fns} {M:Zj} (hS:Z6 P (Zv X M)) {f:FuncId} {xs:List D} (hv:Zv X M f (xs.map .d) []=some (.d (.bool true),[]))
  {W:World} (hG:ZaI (fun b=>b<W.heap.size) W) {vs:Array Value} (hr:Zm (QD W (fun b=>b<W.heap.size)) xs vs.toList) :
  Calls P f vs W fun e W'=>e=.returned (.bool true)∧Below W.heap.size W W':=by
 obtain⟨_,hs⟩:=hS _ _ _ _ _ hv
 have h:=hs (fun b=>W.heap.size≤b) (fun b=>W.heap.size≤b) (fun b=>b<W.heap.size) (fun _=>none) vs.toList W
  ⟨Zm.map_left (f:=AV.d) (fun a b hab=>Z9.2 hab) hr,fun id o hl=>(by cases hl),fun i j o o' b hi=>(by cases hi),fun b hb=>hb,fun b hb=>hb,fun b hb=>hb,fun _ _=>rfl,hG⟩
 rw[show vs.toList.toArray=vs by simp] at h
 refine h.mono fun e W' ⟨v',I',Γ',he,hb⟩=>?_
 subst he
 have hres:=Z9.1 hb.res
 have e1:v'=.bool true:=by
  have:[v']=[Value.bool true]:=hres
  simpa using this
 subst e1
 exact⟨rfl,⟨hb.fr.os,hb.fr.tape,hb.fr.output,hb.fr.size,fun k hk=>hb.fr.block k hk (by omega)⟩⟩
theorem Jp {H:Type} {enc:TypeId×Value→H} {P:Program} (hl:laidOutB P=true) {W W' : World} (hn:Below W.heap.size W W'):∀ {ts:List TypeId} {vs:List Value} {ds:List (DataW H)} {p:List MemPlace},
  (∀ t∈ts,P.readableRec t=true∧t<P.types.size)→(∀ x∈p,x.block<W.heap.size)→DataW.TrodAll enc P W 0 (fun _=>true) true ts vs ds p→DataW.TrodAll enc P W' 0 (fun b=>decide (b<W.heap.size)) true ts vs ds p
 | [],[],[],p,_,_,h=>h
 | t :: ts,v :: vs,d :: ds,p,hm,hlt,h=>by
  obtain⟨q,r,h1,h2,rfl⟩:=h
  exact⟨q,r,Below.trod hl (hm t (by simp)).1 (hm t (by simp)).2 h1 hn (fun x hx=>hlt x (by simp[hx])),Jp hl hn (fun t ht=>hm t (by simp[ht])) (fun x hx=>hlt x (by simp[hx])) h2,rfl⟩
 | [],_ :: _,_,_,_,_,h=>h.elim
 | [],[],_ :: _,_,_,_,h=>h.elim
 | _ :: _,[],_,_,_,_,h=>h.elim
 | _ :: _,_ :: _,[],_,_,_,h=>h.elim
def ZC (P:Program) (t:TypeId) (tys:List TypeId):Prop:=∃ fs,P.underlying t=some (.struct fs)∧fs.toList.map (·.type)=tys
def TyL (P:Program) (n:Nat):List TypeId→List D→Prop
 | [],ds=>ds=[]
 | t :: r,ds=>∃ p q,ds=p++q∧TyD P n t p∧TyL P n r q
theorem XI {P:Program} {n:Nat} {t:TypeId} {tys:List TypeId} {ds:List D} (h:ZC P t tys) (hd:TyD P (n+1) t ds):TyL P n tys ds:=by
 obtain⟨fs,h1,rfl⟩:=h
 simp only[TyD,h1] at hd
 revert ds
 induction fs.toList with
 | nil=>intro ds hd;exact hd
 | cons f r ih=>
  intro ds hd
  obtain⟨p,q,e,h2,h3⟩:=hd
  exact⟨p,q,e,h2,ih h3⟩
def UD (P:Program) {α:Type} (t:TypeId) (enc:α→D) (ok:α→Prop):Prop:=∀ n ds,TyD P n t ds→∃ a,ok a∧ds=(enc a).cells∧ZcA P t ds=enc a∧mkD ds=enc a
theorem ZV {P:Program} {t:TypeId} (h:P.underlying t=some (.int .i64)):UD P t Ju I64:=by
 intro n ds hd
 cases n with
 | zero=>exact hd.elim
 | succ n=>
  simp only[TyD,h] at hd
  obtain⟨z,rfl,hw⟩:=hd
  refine⟨z,?_,rfl,by simp only[ZcA,h];rfl,rfl⟩
  simp[Lit.wf,IntKind.min,IntKind.max,IntKind.signed,IntKind.bits] at hw
  unfold I64
  omega
theorem ZcC {P:Program} {t:TypeId} (h:P.underlying t=some .bool):UD P t D.bool (fun _=>True):=by
 intro n ds hd
 cases n with
 | zero=>exact hd.elim
 | succ n=>
  simp only[TyD,h] at hd
  obtain⟨z,rfl⟩:=hd
  exact⟨z,trivial,rfl,by simp only[ZcA,h];rfl,rfl⟩
theorem reads_str {P:Program} {t:TypeId} (h:P.underlying t=some .string):UD P t D.str (fun s=>s.length≤maxLen):=by
 intro n ds hd
 cases n with
 | zero=>exact hd.elim
 | succ n=>
  simp only[TyD,h] at hd
  obtain⟨z,rfl,hz⟩:=hd
  exact⟨z,hz,rfl,by simp only[ZcA,h];rfl,rfl⟩
theorem JQ {P:Program} {α:Type} {t e:TypeId} {enc:α→D} {ok:α→Prop} (h:P.underlying t=some (.slice e)) (he:UD P e enc ok):UD P t (fun l:List α=>.sl (l.map enc)) (fun l=>l.length≤maxLen∧∀ x∈l,ok x):=by
 intro n ds hd
 cases n with
 | zero=>exact hd.elim
 | succ n=>
  simp only[TyD,h] at hd
  obtain⟨xs,rfl,hl,hx⟩:=hd
  have:∃ l:List α,xs=l.map enc∧∀ x∈l,ok x:=by
   clear hl
   induction xs with
   | nil=>exact⟨[],rfl,by simp⟩
   | cons x xs ih=>
    obtain⟨l,h1,h2⟩:=ih fun y hy=>hx y (by simp[hy])
    obtain⟨es,h3,h4⟩:=hx x (by simp)
    obtain⟨a,g1,_,_,g4⟩:=he n es h4
    refine⟨a :: l,by rw[h3,g4,h1];rfl,fun y hy=>?_⟩
    rcases List.mem_cons.1 hy with rfl | hy
    ·exact g1
    ·exact h2 y hy
  obtain⟨l,rfl,h2⟩:=this
  exact⟨l,⟨by simpa using hl,h2⟩,rfl,by simp only[ZcA,h];rfl,rfl⟩
section
variable {P:Program} {i b:TypeId} (hi:P.underlying i=some (.int .i64)) (hb:P.underlying b=some .bool)
include hi
omit hi in
theorem Xd {t:TypeId} {tys:List TypeId} (h:ZC P t tys) (ds:List D):ZcA P t ds=.agg ds:=by
 obtain⟨fs,h1,_⟩:=h
 simp only[ZcA,h1]
theorem ZbM {t:TypeId} (h:ZC P t [i,i,i,i]):UD P t Box.enc Box.ok:=by
 intro n ds hd
 cases n with
 | zero=>exact hd.elim
 | succ n=>
  obtain⟨_,_,rfl,h1,_,_,rfl,h2,_,_,rfl,h3,_,_,rfl,h4,rfl⟩:=XI h hd
  obtain⟨a1,g1,rfl,_⟩:=ZV hi n _ h1
  obtain⟨a2,g2,rfl,_⟩:=ZV hi n _ h2
  obtain⟨a3,g3,rfl,_⟩:=ZV hi n _ h3
  obtain⟨a4,g4,rfl,_⟩:=ZV hi n _ h4
  exact⟨⟨a1,a2,a3,a4⟩,⟨g1,g2,g3,g4⟩,rfl,Xd h _,rfl⟩
include hb
theorem Zgb {t:TypeId} (h:ZC P t [i,i,b,i]):UD P t Pane.enc Pane.ok:=by
 intro n ds hd
 cases n with
 | zero=>exact hd.elim
 | succ n=>
  obtain⟨_,_,rfl,h1,_,_,rfl,h2,_,_,rfl,h3,_,_,rfl,h4,rfl⟩:=XI h hd
  obtain⟨a1,g1,rfl,_⟩:=ZV hi n _ h1
  obtain⟨a2,g2,rfl,_⟩:=ZV hi n _ h2
  obtain⟨a3,_,rfl,_⟩:=ZcC hb n _ h3
  obtain⟨a4,g4,rfl,_⟩:=ZV hi n _ h4
  exact⟨⟨a1,a2,a3,a4⟩,⟨g1,g2,g4⟩,rfl,Xd h _,rfl⟩
theorem Zam {t p:TypeId} (hp:ZC P p [i,i,b,i]) (h:ZC P t [p,i]):UD P t QF.enc QF.ok:=by
 intro n ds hd
 cases n with
 | zero=>exact hd.elim
 | succ n=>
  obtain⟨_,_,rfl,h1,_,_,rfl,h2,rfl⟩:=XI h hd
  obtain⟨a1,g1,rfl,_⟩:=Zgb hi hb hp n _ h1
  obtain⟨a2,g2,rfl,_⟩:=ZV hi n _ h2
  exact⟨⟨a1,a2⟩,⟨g1,g2⟩,rfl,Xd h _,rfl⟩
theorem Zrt {t s p:TypeId} (hp:ZC P p [i,i,b,i]) (hs:P.underlying s=some (.slice p)) (h:ZC P t [i,i,s]):UD P t Ue.enc Ue.ok:=by
 intro n ds hd
 cases n with
 | zero=>exact hd.elim
 | succ n=>
  obtain⟨_,_,rfl,h1,_,_,rfl,h2,_,_,rfl,h3,rfl⟩:=XI h hd
  obtain⟨a1,g1,rfl,_⟩:=ZV hi n _ h1
  obtain⟨a2,g2,rfl,_⟩:=ZV hi n _ h2
  obtain⟨a3,⟨g3,g4⟩,rfl,_⟩:=JQ hs (Zgb hi hb hp) n _ h3
  exact⟨⟨a1,a2,a3⟩,⟨g1,g2,g3,g4⟩,rfl,Xd h _,rfl⟩
theorem ZqY {t x:TypeId} (hx:ZC P x [i,i,i,i]) (h:ZC P t [i,b,x]):UD P t Vy.enc Vy.ok:=by
 intro n ds hd
 cases n with
 | zero=>exact hd.elim
 | succ n=>
  obtain⟨_,_,rfl,h1,_,_,rfl,h2,_,_,rfl,h3,rfl⟩:=XI h hd
  obtain⟨a1,g1,rfl,_⟩:=ZV hi n _ h1
  obtain⟨a2,_,rfl,_⟩:=ZcC hb n _ h2
  obtain⟨a3,g3,rfl,_⟩:=ZbM hi hx n _ h3
  exact⟨⟨a1,a2,a3⟩,⟨g1,g3⟩,rfl,Xd h _,rfl⟩
omit hb in
theorem Zkh {t s x:TypeId} (hx:ZC P x [i,i,i,i]) (hs:P.underlying s=some (.slice x)) (h:ZC P t [i,i,i,s]):UD P t XU.enc XU.ok:=by
 intro n ds hd
 cases n with
 | zero=>exact hd.elim
 | succ n=>
  obtain⟨_,_,rfl,h1,_,_,rfl,h2,_,_,rfl,h3,_,_,rfl,h4,rfl⟩:=XI h hd
  obtain⟨a1,g1,rfl,_⟩:=ZV hi n _ h1
  obtain⟨a2,g2,rfl,_⟩:=ZV hi n _ h2
  obtain⟨a3,g3,rfl,_⟩:=ZV hi n _ h3
  obtain⟨a4,⟨g4,g5⟩,rfl,_⟩:=JQ hs (ZbM hi hx) n _ h4
  exact⟨⟨a1,a2,a3,a4⟩,⟨g1,g2,g3,g4,g5⟩,rfl,Xd h _,rfl⟩
theorem Zru {t q qs l ls x xs p:TypeId} (hx:ZC P x [i,i,i,i]) (hxs:P.underlying xs=some (.slice x)) (hq:ZC P q [i,i,i,xs]) (hqs:P.underlying qs=some (.slice q))
  (hp:ZC P p [i,i,b,i]) (hl:ZC P l [p,i]) (hls:P.underlying ls=some (.slice l)) (h:ZC P t [qs,ls,ls,i,i]):UD P t Zjx.enc Zjx.ok:=by
 intro n ds hd
 cases n with
 | zero=>exact hd.elim
 | succ n=>
  obtain⟨_,_,rfl,h1,_,_,rfl,h2,_,_,rfl,h3,_,_,rfl,h4,_,_,rfl,h5,rfl⟩:=XI h hd
  obtain⟨a1,g1,rfl,_⟩:=JQ hqs (Zkh hi hx hxs hq) n _ h1
  obtain⟨a2,g2,rfl,_⟩:=JQ hls (Zam hi hb hp hl) n _ h2
  obtain⟨a3,g3,rfl,_⟩:=JQ hls (Zam hi hb hp hl) n _ h3
  obtain⟨a4,g4,rfl,_⟩:=ZV hi n _ h4
  obtain⟨a5,g5,rfl,_⟩:=ZV hi n _ h5
  exact⟨⟨a1,a2,a3,a4,a5⟩,⟨g1,g2,g3,g4,g5⟩,rfl,Xd h _,rfl⟩
theorem Zgc {t s:TypeId} (hs:P.underlying s=some (.slice t)) (h:ZC P t [i,i,i,b,s]):UD P t Ze.enc Ze.ok:=by
 intro n
 induction n using Nat.strongRecOn with
 | _ n ih=>
  intro ds hd
  cases n with
  | zero=>exact hd.elim
  | succ n=>
   obtain⟨_,_,rfl,h1,_,_,rfl,h2,_,_,rfl,h3,_,_,rfl,h4,_,_,rfl,h5,rfl⟩:=XI h hd
   obtain⟨a1,g1,rfl,_⟩:=ZV hi n _ h1
   obtain⟨a2,g2,rfl,_⟩:=ZV hi n _ h2
   obtain⟨a3,g3,rfl,_⟩:=ZV hi n _ h3
   obtain⟨a4,_,rfl,_⟩:=ZcC hb n _ h4
   cases n with
   | zero=>exact h5.elim
   | succ n=>
    simp only[TyD,hs] at h5
    obtain⟨xs,rfl,hl,hx⟩:=h5
    have:∃ l:List Ze,xs=l.map Ze.enc∧∀ x∈l,Ze.ok x:=by
     clear hl hd
     induction xs with
     | nil=>exact⟨[],rfl,by simp⟩
     | cons x xs ih2=>
      obtain⟨l,k1,k2⟩:=ih2 fun y hy=>hx y (by simp[hy])
      obtain⟨es,k3,k4⟩:=hx x (by simp)
      obtain⟨a,g1,_,_,g4⟩:=ih n (by omega) es k4
      refine⟨a :: l,by rw[k3,g4,k1];rfl,fun y hy=>?_⟩
      rcases List.mem_cons.1 hy with rfl | hy
      ·exact g1
      ·exact k2 y hy
    obtain⟨l,rfl,k2⟩:=this
    refine⟨.mk a1 a2 a3 a4 l,.mk g1 g2 g3 (by simpa using hl) k2,by rw[Ze.enc_mk];rfl,?_,by rw[Ze.enc_mk];rfl⟩
    rw[Xd h,Ze.enc_mk];rfl
end
end Go.Abs.L
