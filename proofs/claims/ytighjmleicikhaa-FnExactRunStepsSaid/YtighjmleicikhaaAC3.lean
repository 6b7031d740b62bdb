/- Own text. -/
import Derived.Test.YtighjmleicikhaaACode
import Derived.Test.YtighjmleicikhaaAbsParts
import Derived.Test.YtighjmleicikhaaAC1
import Derived.Test.YtighjmleicikhaaAbsOkD
namespace Go.Proofs.Ytighjmleicikhaa
open Go Go.Abs Go.Abs.E Go.Abs.L
open Nat (reduceMul reduceSub reduceLeDiff reduceEqDiff)
open Int (reduceLE reduceEq reduceToNat reduceNeg)
set_option linter.unusedSimpArgs false
set_option linter.unusedVariables false
set_option maxRecDepth 20000
set_option maxHeartbeats 4000000
def kn:BT→Int→Int→List (Int×Int)
 | .cut _ _ l r,n,a=>(n,a) :: (kn l (n+1) n++kn r (n+1+l.cnt) n)
 | .waste,_,_=>[]
 | .pane _ _,_,_=>[]
theorem Zct:∀ {b:BT} {n a:Int} {q:Int×Int},q∈kn b n a→n≤q.1∧q.1<n+b.cnt∧((q.1=n∧q.2=a)∨(n≤q.2∧q.2<q.1))
 | .waste,n,a,q,h=>by simp[kn] at h
 | .pane _ _,n,a,q,h=>by simp[kn] at h
 | .cut d c l r,n,a,q,h=>by
  simp only[kn,Ke,Kd] at h;simp only[BT.cnt];rcases h with rfl | h | h
  ·exact⟨Int.le_refl _,by simp only;omega,.inl ⟨rfl,rfl⟩⟩
  ·have:=Zct h;omega
  ·have:=Zct h;omega
theorem Jb:∀ (b:BT) (n a:Int),(kn b n a).length≤b.cnt
 | .waste,n,a=>by simp[kn]
 | .pane _ _,n,a=>by simp[kn]
 | .cut d c l r,n,a=>by
  have h1:=Jb l (n+1) n;have h2:=Jb r (n+1+l.cnt) n;simp only[kn,BT.cnt,Kk,Kn];omega
def XZ (d:Bool) (a:Int) (b:Box):Box:=if d then ⟨b.X,b.Y,a,b.H⟩ else ⟨b.X,b.Y,b.W,a⟩
def YQ (d:Bool) (a:Int) (b:Box):Box:=if d then ⟨b.X+a,b.Y,b.W-a,b.H⟩ else ⟨b.X,b.Y+a,b.W,b.H-a⟩
def VY:BT→Int→Box→Int→Option (BT×Box)
 | .cut d a l r,n,g,m=>if m=n then some (.cut d a l r,g) else if m≤n+l.cnt then VY l (n+1) (XZ d a g) m else VY r (n+1+l.cnt) (YQ d a g) m
 | .waste,n,g,m=>if m=n then some (.waste,g) else none
 | .pane i t,n,g,m=>if m=n then some (.pane i t,g) else none
theorem Zjv:∀ {b:BT} {n m:Int} {g c:Box} {q:BT},n≤m→VY b n g m=some (q,c)→(pt b g.X g.Y g.W g.H)[(m-n).toNat]?=some ⟨q.plan,c⟩∧m<n+b.cnt
 | .waste,n,m,g,c,q,hn,h=>by
  unfold VY at h;split at h
  ·rename_i e;cases h;subst e;simp[pt,BT.cnt];omega
  ·cases h
 | .pane i t,n,m,g,c,q,hn,h=>by
  unfold VY at h;split at h
  ·rename_i e;cases h;subst e;simp[pt,BT.cnt];omega
  ·cases h
 | .cut d a l r,n,m,g,c,q,hn,h=>by
  unfold VY at h;split at h
  ·rename_i e;cases h;subst e;simp only[Int.sub_self,pt,BT.cnt];exact⟨rfl,by omega⟩
  ·rename_i e;obtain⟨i,hi⟩:∃ i:Nat,(m-n).toNat=i+1:=⟨(m-n).toNat-1,by omega⟩
   split at h
   ·rename_i h2;obtain⟨k1,k2⟩:=Zjv (by omega) h;have aa : (m-(n+1)).toNat=i:=by omega
    rw[aa] at k1;have hp:=Js l (XZ d a g).X (XZ d a g).Y (XZ d a g).W (XZ d a g).H;have k3:=(Kc.1 k1).1;refine⟨?_,by simp only[BT.cnt];omega⟩;rw[hi];cases d
    ·simp only[XZ,Ka,Kg] at k1 k3;simp only[pt,KZ,Ka,Kg];rw[Ky k3];exact k1
    ·simp only[XZ,Kh] at k1 k3;simp only[pt,KZ,Kh];rw[Ky k3];exact k1
   ·rename_i h2;obtain⟨k1,k2⟩:=Zjv (by omega) h;refine⟨?_,by simp only[BT.cnt];omega⟩;rw[hi];cases d
    ·simp only[YQ,Ka,Kg] at k1;have hp:=Js l g.X g.Y g.W a;simp only[pt,KZ,Ka,Kg];rw[Kt (by omega),← k1];congr 1;omega
    ·simp only[YQ,Kh] at k1;have hp:=Js l g.X g.Y a g.H;simp only[pt,KZ,Kh];rw[Kt (by omega),← k1];congr 1;omega
def Xl (dn:List Int):BT→Int→Box→List Box
 | .cut d a l r,n,g=>if n∈dn then Xl dn l (n+1) (XZ d a g)++Xl dn r (n+1+l.cnt) (YQ d a g) else [g]
 | .waste,_,g=>[g]
 | .pane _ _,_,g=>[g]
def av (dn:List Int):BT→Int→Int→Prop
 | .cut _ _ l r,n,m=>if n∈dn then av dn l (n+1) m∨av dn r (n+1+l.cnt) m else m=n
 | .waste,_,_=>False
 | .pane _ _,_,_=>False
def Cl (dn:List Int):BT→Int→Prop
 | .cut _ _ l r,n=>(n∉dn→∀ m∈dn,m<n∨n+(1+l.cnt+r.cnt)≤m)∧Cl dn l (n+1)∧Cl dn r (n+1+l.cnt)
 | .waste,_=>True
 | .pane _ _,_=>True
theorem ZfV:∀ (b:BT) (n:Int),Cl [] b n
 | .waste,_=>trivial
 | .pane _ _,_=>trivial
 | .cut _ _ l r,n=>⟨fun _ m hm=>(by cases hm),ZfV l _,ZfV r _⟩
theorem Zjw (b:BT) (n:Int) (g:Box):Xl [] b n g=[g]:=by cases b<;>simp[Xl]
theorem Uk {dn:List Int} {m x:Int}:x∈dn++[m]↔x∈dn∨x=m:=by simp
theorem Ww {dn:List Int}:∀ {b:BT} {n m:Int},av dn b n m→n≤m∧m<n+b.cnt
 | .waste,_,_,h=>h.elim
 | .pane _ _,_,_,h=>h.elim
 | .cut _ _ l r,n,m,h=>by
  unfold av at h;simp only[BT.cnt];split at h
  ·rcases h with h | h
   ·have:=Ww h;omega
   ·have:=Ww h;omega
  ·omega
theorem Jx {dn:List Int} {m:Int}:∀ {b:BT} {n:Int},Cl dn b n→(m<n∨n+b.cnt≤m)→Cl (dn++[m]) b n
 | .waste,_,_,_=>trivial
 | .pane _ _,_,_,_=>trivial
 | .cut _ _ l r,n,h,hm=>by
  simp only[BT.cnt] at hm;obtain⟨h1,h2,h3⟩:=h;refine⟨fun hn x hx=>?_,Jx h2 (by omega),Jx h3 (by omega)⟩;rw[Uk] at hn hx;rcases hx with hx | rfl
  ·exact h1 (fun h=>hn (.inl h)) x hx
  ·omega
theorem Zjx {dn:List Int} {m:Int}:∀ {b:BT} {n:Int},Cl dn b n→av dn b n m→Cl (dn++[m]) b n
 | .waste,_,_,_=>trivial
 | .pane _ _,_,_,_=>trivial
 | .cut _ _ l r,n,h,ha=>by
  have hr:=Ww ha;obtain⟨h1,h2,h3⟩:=h;unfold av at ha;refine⟨fun hn=>?_,?_⟩
  ·rw[Uk] at hn;split at ha
   ·rename_i hd;exact absurd (.inl hd) hn
   ·exact absurd (.inr ha.symm) hn
  ·split at ha
   ·rcases ha with ha | ha
    ·have:=Ww ha;exact⟨Zjx h2 ha,Jx h3 (by omega)⟩
    ·have:=Ww ha;exact⟨Jx h2 (by omega),Zjx h3 ha⟩
   ·exact⟨Jx h2 (by omega),Jx h3 (by omega)⟩
theorem ZbC {dn:List Int} {m:Int}:∀ {b:BT} {n:Int} {g:Box},(m<n∨n+b.cnt≤m)→Xl (dn++[m]) b n g=Xl dn b n g
 | .waste,_,_,_=>rfl
 | .pane _ _,_,_,_=>rfl
 | .cut d a l r,n,g,hm=>by
  simp only[BT.cnt] at hm;have e:(n∈dn++[m])=(n∈dn):=by rw[Uk];exact propext ⟨fun h=>h.resolve_right (by omega),.inl⟩
  simp only[Xl,e];rw[ZbC (b:=l) (by omega),ZbC (b:=r) (by omega)]
theorem ZkL {dn:List Int} {b:BT} {n:Int} {g:Box} (h:∀ m∈dn,m<n∨n+b.cnt≤m):Xl dn b n g=[g]:=by
 cases b with
 | cut d a l r=>
  have:n∉dn:=fun hn=>by have:=h n hn;simp only[BT.cnt] at this;omega
  simp only[Xl,this,Kg]
 | _=>rfl
def Jc (g:Box):Prop:=1≤g.W∧1≤g.H
theorem ZnD {ps:List Pane} {d:Bool} {a:Int} {l r:BT} {g:Box} (hf:Qv ps (.cut d a l r) g.W g.H=true) (hg:Jc g) :
  (Qv ps l (XZ d a g).W (XZ d a g).H=true∧Qv ps r (YQ d a g).W (YQ d a g).H=true)∧(Jc (XZ d a g)∧Jc (YQ d a g))∧(Q2 (XZ d a g) g∧Q2 (YQ d a g) g) ∧
  ∀ x y,Q2 x (XZ d a g)→Q2 y (YQ d a g)→¬Zco x y:=by
 unfold Jc at hg ⊢;cases d
 ·simp only[Qv,Kb,Ka,Kg,Kj] at hf;simp only[XZ,YQ,Ka,Kg,Q2];refine⟨⟨hf.1.2,hf.2⟩,by omega,by omega,fun x y h1 h2=>?_⟩;unfold Zco;omega
 ·simp only[Qv,Kb,Kh,Kj] at hf;simp only[XZ,YQ,Kh,Q2];refine⟨⟨hf.1.2,hf.2⟩,by omega,by omega,fun x y h1 h2=>?_⟩;unfold Zco;omega
theorem WY {a b c:Box} (h1:Q2 a b) (h2:Q2 b c):Q2 a c:=by unfold Q2 at *;omega
theorem UV (a:Box):Q2 a a:=by unfold Q2;omega
theorem Zmm {ps:List Pane} {dn:List Int}:∀ {b:BT} {n:Int} {g:Box},Qv ps b g.W g.H=true→Jc g→(∀ c∈Xl dn b n g,Q2 c g∧Jc c)∧(Xl dn b n g).Pairwise fun x y=>¬Zco x y
 | .waste,_,g,_,hg=>by simp only[Xl];exact⟨fun c hc=>by rw[KG.1 hc];exact⟨UV g,hg⟩,by simp⟩
 | .pane _ _,_,g,_,hg=>by simp only[Xl];exact⟨fun c hc=>by rw[KG.1 hc];exact⟨UV g,hg⟩,by simp⟩
 | .cut d a l r,n,g,hf,hg=>by
  obtain⟨⟨f1,f2⟩,⟨p1,p2⟩,⟨i1,i2⟩,ha⟩:=ZnD hf hg;obtain⟨a1,a2⟩:=Zmm (dn:=dn) (n:=n+1) f1 p1;obtain⟨b1,b2⟩:=Zmm (dn:=dn) (n:=n+1+l.cnt) f2 p2;simp only[Xl];split
  ·refine⟨fun c hc=>?_,Lf.2 ⟨a2,b2,fun x hx y hy=>ha x y (a1 x hx).1 (b1 y hy).1⟩⟩;rcases Kd.1 hc with hc | hc
   ·exact⟨WY (a1 c hc).1 i1,(a1 c hc).2⟩
   ·exact⟨WY (b1 c hc).1 i2,(b1 c hc).2⟩
  ·exact⟨fun c hc=>by rw[KG.1 hc];exact⟨UV g,hg⟩,by simp⟩
theorem Zok {ps:List Pane} {dn:List Int} {b:BT} {n:Int} {g:Box} (hf:Qv ps b g.W g.H=true) (hg:Jc g):(Xl dn b n g).Nodup:=by
 obtain⟨h1,h2⟩:=Zmm (dn:=dn) (n:=n) hf hg;refine List.Pairwise.imp_of_mem (fun {x y} hx _ hm e=>hm ?_) h2;subst e;have:=(h1 x hx).2;unfold Jc at this;unfold Zco;omega
theorem ZfW {ps:List Pane} {dn:List Int} {m:Int}:∀ {b:BT} {n:Int} {g:Box},Cl dn b n→av dn b n m→Qv ps b g.W g.H=true→Jc g →
  ∃ d a l r c,VY b n g m=some (.cut d a l r,c)∧Qv ps (.cut d a l r) c.W c.H=true∧Q2 c g∧Jc c∧c∈Xl dn b n g∧(Xl (dn++[m]) b n g).Perm ((Xl dn b n g).erase c++[XZ d a c,YQ d a c])
 | .waste,_,_,_,h,_,_=>h.elim
 | .pane _ _,_,_,_,h,_,_=>h.elim
 | .cut d a l r,n,g,hC,ha,hf,hg=>by
  obtain⟨h1,h2,h3⟩:=hC;obtain⟨⟨f1,f2⟩,⟨p1,p2⟩,⟨i1,i2⟩,aa⟩:=ZnD hf hg;unfold av at ha;by_cases hn:n∈dn
  ·rw[Ku hn] at ha;have e1:Xl dn (.cut d a l r) n g=Xl dn l (n+1) (XZ d a g)++Xl dn r (n+1+l.cnt) (YQ d a g):=by simp only[Xl,hn,Kh]
   have e2:Xl (dn++[m]) (.cut d a l r) n g=Xl (dn++[m]) l (n+1) (XZ d a g)++Xl (dn++[m]) r (n+1+l.cnt) (YQ d a g):=by
    have:n∈dn++[m]:=Uk.2 (.inl hn);simp only[Xl,this,Kh]
   rw[e1,e2];rcases ha with ha | ha
   ·have hr:=Ww ha;obtain⟨d',a',l',r',c,k1,k2,k3,k4,k5,k6⟩:=ZfW h2 ha f1 p1;refine⟨d',a',l',r',c,?_,k2,WY k3 i1,k4,List.mem_append_left _ k5,?_⟩
    ·unfold VY;rw[Kp (by omega),Ku (by omega)];exact k1
    ·rw[ZbC (b:=r) (by omega),List.erase_append_left _ k5];refine(k6.append_right _).trans ?_;rw[KM,KM];exact List.Perm.append_left _ List.perm_append_comm
   ·have hr:=Ww ha;obtain⟨d',a',l',r',c,k1,k2,k3,k4,k5,k6⟩:=ZfW h3 ha f2 p2;refine⟨d',a',l',r',c,?_,k2,WY k3 i2,k4,List.mem_append_right _ k5,?_⟩
    ·unfold VY;rw[Kp (by omega),Kp (by omega)];exact k1
    ·rw[ZbC (b:=l) (by omega)];have q1:((Xl dn l (n+1) (XZ d a g)++Xl dn r (n+1+l.cnt) (YQ d a g)).erase c).Perm (Xl dn l (n+1) (XZ d a g)++(Xl dn r (n+1+l.cnt) (YQ d a g)).erase c):=by
      refine(List.perm_append_comm.erase c).trans ?_;rw[List.erase_append_left _ k5];exact List.perm_append_comm
     refine(List.Perm.append_left _ k6).trans ?_;rw[← KM];exact(q1.append_right _).symm
  ·rw[Kp hn] at ha;subst ha;have hz:=h1 hn;refine⟨d,a,l,r,g,by unfold VY;rw[Ku rfl],hf,UV g,hg,?_,?_⟩
   ·simp only[Xl,hn,Kg];simp
   ·have:m∈dn++[m]:=Uk.2 (.inr rfl);have e1:Xl dn (.cut d a l r) m g=[g]:=by simp only[Xl,hn,Kg]
    have e2:Xl (dn++[m]) (.cut d a l r) m g=Xl (dn++[m]) l (m+1) (XZ d a g)++Xl (dn++[m]) r (m+1+l.cnt) (YQ d a g):=by simp only[Xl,this,Kh]
    rw[e1,e2,ZkL (b:=l),ZkL (b:=r)]
    ·simp
    ·intro x hx;rcases Uk.1 hx with hx | rfl
     ·have:=hz x hx;omega
     ·omega
    ·intro x hx;rcases Uk.1 hx with hx | rfl
     ·have:=hz x hx;omega
     ·omega
theorem Zpu {dn:List Int} {m ab:Int}:∀ {b:BT} {n a:Int},(m,ab)∈kn b n a→Cl dn b n→m∉dn→(m=n∨ab∈dn)→av dn b n m
 | .waste,n,a,h,_,_,_=>by simp[kn] at h
 | .pane _ _,n,a,h,_,_,_=>by simp[kn] at h
 | .cut d c l r,n,a,h,hC,hm,ho=>by
  have hr:=Zct h;simp only[BT.cnt] at hr;obtain⟨h1,h2,h3⟩:=hC;simp only[kn,Ke,Kd,Prod.mk.injEq] at h;unfold av;by_cases hn:n∈dn
  ·rw[Ku hn];rcases h with ⟨rfl,rfl⟩ | h | h
   ·exact absurd hn hm
   ·have hk:=Zct h;refine .inl (Zpu h h2 hm ?_);rcases ho with rfl | ho
    ·simp only at hk;omega
    ·exact .inr ho
   ·have hk:=Zct h;refine .inr (Zpu h h3 hm ?_);rcases ho with rfl | ho
    ·simp only at hk;omega
    ·exact .inr ho
  ·rw[Kp hn];rcases ho with rfl | ho
   ·rfl
   ·have:=h1 hn ab ho;omega
def okN (K:List (Int×Int)) (dn:List Int) (m:Int):Bool:=match K.find? fun q=>q.1==m with
 | some q=>!decide (m∈dn)&&(decide (q.2<0) || decide (q.2∈dn))
 | none=>false
def okS (K:List (Int×Int)):List Int→List Int→Bool
 | _,[]=>true
 | dn,m :: r=>okN K dn m&&okS K (dn++[m]) r
theorem okN_av {b:BT} {dn:List Int} {m:Int} (h:okN (kn b 0 (-1)) dn m=true) (hC:Cl dn b 0):av dn b 0 m:=by
 unfold okN at h;split at h
 ·rename_i q hq;obtain⟨x,y⟩:=q;have h1:=List.find?_some hq;have h2:=List.mem_of_find?_eq_some hq;simp only[beq_iff_eq] at h1;subst h1;simp only[Kb,KF,KH,K1,Kj] at h;refine Zpu h2 hC h.1 ?_;rcases h.2 with h | h
  ·left;have:=Zct h2;simp only at this;omega
  ·exact .inr h
 ·cases h
theorem Zjy {ps:List Pane} {b:BT} {g:Box} {dn:List Int} {m:Int} {t:List Box} (hf:Qv ps b g.W g.H=true) (hg:Jc g) (hC:Cl dn b 0) (ht:t.Perm (Xl dn b 0 g)) (ho:okN (kn b 0 (-1)) dn m=true) :
  ∃ d a l r c,(0≤m∧m<b.cnt)∧VY b 0 g m=some (.cut d a l r,c)∧Qv ps (.cut d a l r) c.W c.H=true∧Q2 c g∧Jc c∧c∈t∧t.Nodup∧Cl (dn++[m]) b 0∧(t.erase c++[XZ d a c,YQ d a c]).Perm (Xl (dn++[m]) b 0 g):=by
 have ha:=okN_av ho hC;have hr:=Ww ha;obtain⟨d,a,l,r,c,h1,h2,h3,h4,h5,h6⟩:=ZfW hC ha hf hg;exact⟨d,a,l,r,c,by omega,h1,h2,h3,h4,ht.mem_iff.2 h5,ht.nodup_iff.2 (Zok hf hg),Zjx hC ha,((ht.erase c).append_right _).trans h6.symm⟩
def goS (b:BT) (g:Box):List Box→List Int→List Box
 | t,[]=>t
 | t,m :: r=>match VY b 0 g m with
  | some (.cut d a _ _,c)=>goS b g (t.erase c++[XZ d a c,YQ d a c]) r
  | _=>goS b g t r
theorem ZfX {b:BT} {g c:Box} {t:List Box} {m a:Int} {r:List Int} {d:Bool} {l r' : BT} (h:VY b 0 g m=some (.cut d a l r',c)):goS b g t (m :: r)=goS b g (t.erase c++[XZ d a c,YQ d a c]) r:=by rw[goS,h]
def UW (k:Q7) (p:Ze) (s:List Int):Option (List Box):=match QG p with
 | some b=>if Yc k p&&okS (kn b 0 (-1)) [] s then some (goS b ⟨0,0,k.W,k.H⟩ [⟨0,0,k.W,k.H⟩] s) else none
 | none=>none
theorem ZnE {ps:List Pane} {b:BT} {g:Box} (hf:Qv ps b g.W g.H=true) (hg:Jc g):∀ {s dn:List Int} {t:List Box},Cl dn b 0→t.Perm (Xl dn b 0 g)→okS (kn b 0 (-1)) dn s=true→(goS b g t s).Perm (Xl (dn++s) b 0 g)∧Cl (dn++s) b 0
 | [],dn,t,hC,ht,ho=>by simpa [goS] using ⟨ht,hC⟩
 | m :: r,dn,t,hC,ht,ho=>by
  simp only[okS,Kb] at ho;obtain⟨d,a,l,r',c,_,h1,_,_,_,_,_,h7,h8⟩:=Zjy hf hg hC ht ho.1;rw[ZfX h1];have:=ZnE hf hg h7 h8 ho.2
  rwa [KM,List.singleton_append] at this
theorem ZfY:∀ {b:BT} {n m:Int} {g c:Box} {q:BT},VY b n g m=some (q,c)→q.cnt≤b.cnt
 | .waste,n,m,g,c,q,h=>by
  unfold VY at h;split at h
  ·cases h;exact Kf _
  ·cases h
 | .pane i t,n,m,g,c,q,h=>by
  unfold VY at h;split at h
  ·cases h;exact Kf _
  ·cases h
 | .cut d a l r,n,m,g,c,q,h=>by
  unfold VY at h;split at h
  ·cases h;exact Kf _
  ·simp only[BT.cnt];split at h
   ·have:=ZfY h;omega
   ·have:=ZfY h;omega
theorem ZfB (dn:List Int):∀ (b:BT) (n:Int) (g:Box),(Xl dn b n g).length≤b.cnt
 | .waste,_,_=>Kf _
 | .pane _ _,_,_=>Kf _
 | .cut d a l r,n,g=>by
  have h1:=ZfB dn l (n+1) (XZ d a g);have h2:=ZfB dn r (n+1+l.cnt) (YQ d a g);simp only[Xl,BT.cnt];split
  ·rw[Kn];omega
  ·simp;omega
theorem Zru {ps:List Pane} {b:BT} {g:Box} {s:List Int} (hf:Qv ps b g.W g.H=true) (hg:Jc g) (ho:okS (kn b 0 (-1)) [] s=true):(goS b g [g] s).length≤b.cnt:=by
 have h:=(ZnE hf hg (ZfV b 0) (t:=[g]) (by rw[Zjw]) ho).1;rw[h.length_eq];exact ZfB _ _ _ _
def Jy (q:Int×Int):D:=.agg [J q.1,J q.2]
@[go_sem] theorem encK_mk (a b:Int):Jy (a,b)=.agg [J a,J b]:=rfl
@[go_sem] theorem uni_K (l:List (Int×Int)):uni 2 (l.map Jy)=True:=eq_true (W6 l fun _=>rfl)
@[go_sem] theorem flat_K (l:List (Int×Int)):Qy (l.map Jy)=True:=eq_true (Uz l fun _=>rfl)
def kaV (b:BT) (xs:List D) (n a:Int):AV×List Zh:=match b with
 | .cut d c l r=>(.tup [.own 1,(.d (J (n+((BT.cut d c l r).cnt:Nat))))],[.gone,.row 2 (xs++(kn (.cut d c l r) n a).map Jy) true false])
 | _=>(.tup [.own 0,(.d (J (n+1)))],[.row 2 xs true false])
theorem ZbD (b:BT):(∃ d c l r,b=.cut d c l r)∨(b.cnt=1∧(∀ n a,kn b n a=[])∧∀ xs n a,kaV b xs n a=(.tup [.own 0,(.d (J (n+1)))],[.row 2 xs true false])):=by
 cases b with
 | cut d' c' l' r'=>exact .inl ⟨_,_,_,_,rfl⟩
 | _=>exact .inr ⟨rfl,fun _ _=>rfl,fun _ _ _=>rfl⟩
theorem ZbE {b:BT} {xs:List D} {n a:Int} (h:∃ d c l r,b=.cut d c l r):kaV b xs n a=(.tup [.own 1,(.d (J (n+(b.cnt:Nat))))],[.gone,.row 2 (xs++(kn b n a).map Jy) true false]):=by
 obtain⟨d,c,l,r,rfl⟩:=h;rfl
theorem VA:∀ (b:BT) (xs:List D) (n a:Int),0≤n→n+b.cnt≤1000→xs.length+b.cnt≤1000 →
  Zj Xs Ms ZS [.own 0,.d b.plan.enc,(.d (J n)),(.d (J a))] [.row 2 xs true false]=some (kaV b xs n a)
 | .waste,xs,n,a,h0,h1,h2=>by
  have w1:=wi (n+1) (by omega) (by simp only[BT.cnt] at h1;omega);simp only[BT.plan,Ze.enc_mk,kaV];refine cE ?_;simp +contextual -implicitDefEqProofs (maxSteps:=10^7) only[go_sem,seval,↓gZ,Z1,ZK,w1]
 | .pane i t,xs,n,a,h0,h1,h2=>by
  have w1:=wi (n+1) (by omega) (by simp only[BT.cnt] at h1;omega);simp only[BT.plan,Ze.enc_mk,kaV];refine cE ?_;simp +contextual -implicitDefEqProofs (maxSteps:=10^7) only[go_sem,seval,↓gZ,Z1,ZK,w1]
 | .cut d c l r,xs,n,a,h0,h1,h2=>by
  simp only[BT.cnt] at h1 h2;have w1:=wi (n+1) (by omega) (by omega);have hr:(xs.length+1)*16≤140737488355328∧xs.length≤140737488355327:=by omega
  have kl:=Jb l (n+1) n;have e1:=VA l (xs++[.agg [J n,J a]]) (n+1) n (by omega) (by omega) (by simp only[Kn,Kk,KI];omega);have e2:=VA r (xs++[.agg [J n,J a]]++(kn l (n+1) n).map Jy) (n+1+l.cnt) n (by omega) (by omega) (by simp only[Kn,Kk,KI,KX];omega);have e3:n+((1+l.cnt+r.cnt:Nat):Int)=n+1+l.cnt+r.cnt:=by push_cast;omega
  have hd:(X3 d=2∨X3 d=3)=True:=eq_true (by cases d<;>simp[X3]);simp only[BT.plan,Ze.enc_mk,kaV,kn,BT.cnt,e3];rcases ZbD l with hl | ⟨af,ag,ah⟩
  ·rw[ZbE hl] at e1;rcases ZbD r with aa | ⟨ab,ad,ae⟩
   ·rw[ZbE aa] at e2;refine cE ?_;simp +contextual -implicitDefEqProofs (maxSteps:=10^7) only[go_sem,seval,↓gZ,Z1,ZK,hd,hr,w1,e1,e2];try (simp[Jy];done)
   ·rw[ae] at e2;rw[ad,ab];refine cE ?_;simp +contextual -implicitDefEqProofs (maxSteps:=10^7) only[go_sem,seval,↓gZ,Z1,ZK,hd,hr,w1,e1,e2];try (simp[Jy];done)
  ·rw[ah] at e1;rw[ag,af,KS,Lu,show ((1:Nat):Int)=1 from rfl] at e2;rw[ag,af,show ((1:Nat):Int)=1 from rfl];rcases ZbD r with aa | ⟨ab,ad,ae⟩
   ·rw[ZbE aa] at e2;refine cE ?_;simp +contextual -implicitDefEqProofs (maxSteps:=10^7) only[go_sem,seval,↓gZ,Z1,ZK,hd,hr,w1,e1,e2];try (simp[Jy];done)
   ·rw[ae] at e2;rw[ad,ab];refine cE ?_;simp +contextual -implicitDefEqProofs (maxSteps:=10^7) only[go_sem,seval,↓gZ,Z1,ZK,hd,hr,w1,e1,e2];try (simp[Jy];done)
theorem ZfZ:∀ (b:BT),b.cnt≤255→Zj Xs Ms ZS [.nil,.d b.plan.enc,(.d (J 0)),(.d (J (-1)))] []=some (.tup [.own 0,(.d (J ((b.cnt:Nat))))],[.row 2 ((kn b 0 (-1)).map Jy) true false])
 | .waste,h2=>by
  simp only[BT.plan,Ze.enc_mk,kn,BT.cnt];refine cE ?_;simp +contextual -implicitDefEqProofs (maxSteps:=10^7) only[go_sem,seval,↓gZ,Z1,ZK]
 | .pane i t,h2=>by
  simp only[BT.plan,Ze.enc_mk,kn,BT.cnt];refine cE ?_;simp +contextual -implicitDefEqProofs (maxSteps:=10^7) only[go_sem,seval,↓gZ,Z1,ZK]
 | .cut d c l r,h2=>by
  simp only[BT.cnt] at h2;have hr:1*16≤Zv∧1≤Zv:=by unfold Zv;omega
  have kl:=Jb l 1 0;have e1:=VA l [.agg [J 0,J (-1)]] 1 0 (by omega) (by omega) (by simp only[Kk,KI];omega);have e2:=VA r (.agg [J 0,J (-1)] :: (kn l 1 0).map Jy) (1+l.cnt) 0 (by omega) (by omega) (by simp only[Kk,KX] at kl ⊢;omega);have e3:((1+l.cnt+r.cnt:Nat):Int)=1+l.cnt+r.cnt:=by push_cast;omega
  have hd:(X3 d=2∨X3 d=3)=True:=eq_true (by cases d<;>simp[X3]);simp only[BT.plan,Ze.enc_mk,kn,BT.cnt,e3,Int.zero_add];rcases ZbD l with hl | ⟨af,ag,ah⟩
  ·rw[ZbE hl] at e1;rcases ZbD r with aa | ⟨ab,ad,ae⟩
   ·rw[ZbE aa] at e2;refine cE ?_;simp +contextual -implicitDefEqProofs (maxSteps:=10^7) only[go_sem,seval,↓gZ,Z1,ZK,hd,hr,e1,e2];try (simp[Jy];done)
   ·rw[ae] at e2;rw[ad,ab];refine cE ?_;simp +contextual -implicitDefEqProofs (maxSteps:=10^7) only[go_sem,seval,↓gZ,Z1,ZK,hd,hr,e1,e2];try (simp[Jy];done)
  ·rw[ah,show (1:Int)+1=2 from rfl] at e1;rw[ag,af,KS,show ((1:Nat):Int)=1 from rfl,show (1:Int)+1=2 from rfl] at e2;rw[ag,af,show ((1:Nat):Int)=1 from rfl,show (1:Int)+1=2 from rfl];rcases ZbD r with aa | ⟨ab,ad,ae⟩
   ·rw[ZbE aa] at e2;refine cE ?_;simp +contextual -implicitDefEqProofs (maxSteps:=10^7) only[go_sem,seval,↓gZ,Z1,ZK,hd,hr,e1,e2];try (simp[Jy];done)
   ·rw[ae] at e2;rw[ad,ab];refine cE ?_;simp +contextual -implicitDefEqProofs (maxSteps:=10^7) only[go_sem,seval,↓gZ,Z1,ZK,hd,hr,e1,e2];try (simp[Jy];done)
def knOf (p:Ze):List (Int×Int):=match QG p with
 | some b=>if b.cnt≤255 then kn b 0 (-1) else []
 | none=>[]
def wfP (p:Ze):Bool:=decide (0≤Zk 255 (QG p))
theorem Zjz (p:Ze):Zj Xs Ms Wy [.d p.enc] []=some (.tup [.own 0,(.d (.bool (wfP p)))],[.row 2 ((knOf p).map Jy) true false]):=by
 have hs:=Zb6 p;unfold wfP knOf;cases hb:QG p with
 | none=>
  rw[hb] at hs;obtain⟨o,a,q,t,ks⟩:=p;rw[Ze.enc_mk] at hs ⊢;refine cE ?_;simp +contextual -implicitDefEqProofs (maxSteps:=10^7) only[go_sem,seval,↓gZ,WG,hs,Zk]
 | some b=>
  have hp:=Wh hb;rw[hb] at hs;have hc:=b.cnt_pos;have hz:=Qa 255 b;by_cases h2:b.cnt≤255
  ·have h3:Zk 255 (some b)=b.cnt:=by omega
   have h4:¬(b.cnt:Int)<0:=by omega
   have ek:=ZfZ b h2;rw[← hp] at ek;rw[h3] at hs ⊢;simp only[h2,Kh];obtain⟨o,a,q,t,ks⟩:=p;rw[Ze.enc_mk] at hs ek ⊢;refine cE ?_;simp +contextual -implicitDefEqProofs (maxSteps:=10^7) only[go_sem,seval,↓gZ,WG,hs,h4,ek]
  ·have h3:Zk 255 (some b)=-1:=by omega
   rw[h3] at hs ⊢;simp only[h2,Kg];obtain⟨o,a,q,t,ks⟩:=p;rw[Ze.enc_mk] at hs ⊢;refine cE ?_;simp +contextual -implicitDefEqProofs (maxSteps:=10^7) only[go_sem,seval,↓gZ,WG,hs]
def fKn:Nat→List (Int×Int)→Int→Int
 | _,[],_=>-1
 | k,x :: l,n=>if x.1=n then (k:Int) else fKn (k+1) l n
theorem Zpv {l:List (Int×Int)} {k:Nat} {x:Int×Int} {n:Int} (hx:l[k]?=some x):fKn k (l.drop k) n=if x.1=n then (k:Int) else fKn (k+1) (l.drop (k+1)) n:=by
 obtain⟨h1,h2⟩:=Kc.1 hx;rw[KB h1,h2,fKn]
theorem Zf0:∀ (l:List (Int×Int)) (k:Nat) (n:Int),(fKn k l n<0∧(l.find? fun q=>q.1==n)=none)∨∃ i q,fKn k l n=((k+i:Nat):Int)∧l[i]?=some q∧q.1=n∧(l.find? fun q=>q.1==n)=some q
 | [],k,n=>.inl ⟨by simp[fKn],rfl⟩
 | x :: l,k,n=>by
  by_cases h:x.1=n
  ·exact .inr ⟨0,x,by simp[fKn,h],rfl,h,by simp[List.find?,h]⟩
  ·rcases Zf0 l (k+1) n with ⟨h1,h2⟩ | ⟨i,q,h1,h2,h3,h4⟩
   ·exact .inl ⟨by simp only[fKn,h,Kg];exact h1,by rw[List.find?_cons_of_neg (by simpa using h)];exact h2⟩
   ·exact .inr ⟨i+1,q,by simp only[fKn,h,Kg];rw[h1];congr 1;omega,by simpa using h2,h3,by rw[List.find?_cons_of_neg (by simpa using h)];exact h4⟩
theorem Zfr (a b n:Int):Zj Xs Ms XB [.d (.agg [J a,J b]),.ptr 0 0] [.box [(.d (J n))]]=some ((.d (.bool (decide (a=n)))),[.box [(.d (J n))]]):=by
 refine cE ?_;simp +contextual -implicitDefEqProofs (maxSteps:=10^7) only[go_sem,seval,↓gZ,Ut]
theorem ZkM (l:List (Int×Int)) (n:Int) (hl:l.length<4611686018427387904):Zj Xs Ms QI [.d (.sl (l.map Jy)),.clo XB [.ptr 0 0]] [.box [(.d (J n))]]=some ((.d (J (fKn 0 l n))),[.box [(.d (J n))]]):=by
 refine cE ?_;simp +contextual -implicitDefEqProofs (maxSteps:=10^7) only[go_sem,seval,↓gZ,X0];refine LO (α:=Nat) (fun k=>[(8,.d (J (k:Int)))]) (fun _=>[]) (fun k=>k≤l.length∧fKn k (l.drop k) n=fKn 0 l n) (fun k=>l.length-k) 0 ⟨by omega,rfl⟩ ?_;intro k ⟨hk,hp⟩ ih;by_cases aa:k<l.length
 ·obtain⟨x,hx⟩:=QN aa;rw[Zpv hx] at hp;have hw:=ZQ (k:=k) (by omega);have e1:=Zfr x.1 x.2 n;obtain⟨a,b⟩:=x;simp only at hp e1;by_cases h:a=n
  ·rw[Ku h] at hp;rw[LP h] at e1;simp +contextual -implicitDefEqProofs (maxSteps:=10^7) only[go_sem,seval,↓gZ,hx,aa,hw,e1];rw[← hp]
  ·rw[Kp h] at hp;rw[LL h] at e1;simp +contextual -implicitDefEqProofs (maxSteps:=10^7) only[go_sem,seval,↓gZ,hx,aa,hw,e1];refine ih (k+1) _ ⟨by omega,hp⟩ (by omega) ?_;simp +contextual -implicitDefEqProofs (maxSteps:=10^7) only[go_sem,seval,↓gZ]
 ·have:k=l.length:=by omega
  subst this;simp +contextual -implicitDefEqProofs (maxSteps:=10^7) only[go_sem,seval,↓gZ];rw[← hp];simp[fKn]
theorem ZhP (l:List (Int×Int)) (n:Int) (hl:l.length<4611686018427387904):Zj Xs Ms VE [.d (.sl (l.map Jy)),(.d (J n))] []=some ((.d (J (fKn 0 l n))),[]):=by
 have e1:=ZkM l n hl;refine cE ?_;simp +contextual -implicitDefEqProofs (maxSteps:=10^7) only[go_sem,seval,↓gZ,J4,e1]
def Ul (N:Nat) (P:Nat→Bool):List AV:=(List.range N).map fun x=>.d (.bool (P x))
theorem Zf1 (N:Nat) (P:Nat→Bool):(Ul N P).length=N:=by simp[Ul]
theorem ZaK {N:Nat} (P:Nat→Bool) {x:Nat} (h:x<N):(Ul N P)[x]?=some (.d (.bool (P x))):=by
 simp[Ul,h]
theorem splice_one {α:Type} {cs:List α} {x:Nat} {v:α} (h:x<cs.length):Zl cs x [v]=cs.set x v:=by
 rw[List.set_eq_take_append_cons_drop,Ku h];simp[Zl]
theorem Zpw {N:Nat} (P:Nat→Bool) {x:Nat} (h:x<N):Zl (Ul N P) x [.d (.bool true)]=Ul N (fun z=>P z || z==x):=by
 rw[splice_one (by rw[Zf1];exact h)];refine KT fun i=>?_;rw[List.getElem?_set,Zf1];by_cases h1:i<N
 ·by_cases h2:x=i
  ·subst h2;rw[Ku rfl,Ku h,ZaK _ h,beq_self_eq_true,Bool.or_true]
  ·rw[Kp h2,ZaK _ h1,ZaK _ h1];have h3:(i==x)=false:=beq_false_of_ne fun e=>h2 e.symm;rw[h3,Bool.or_false]
 ·rw[Kp (by omega)];simp[Ul,h1]
theorem Zol (N:Nat):List.replicate N (AV.d (.bool false))=Ul N (fun _=>false):=by
 unfold Ul;rw[List.map_const',List.length_range]
theorem ZkN (N:Nat) (P:Nat→Bool):Zbc (Ul N P)=false:=by
 have h:∀ l:List Nat,Zbc (l.map fun x=>AV.d (.bool (P x)))=false:=fun l=>by
  induction l with
  | nil=>rfl
  | cons a l ih=>exact ih
 exact h _
theorem Zcu (N:Nat) (P:Nat→Bool):QP (Ul N P)=true:=by
 have h:∀ l:List Nat,QP (l.map fun x=>AV.d (.bool (P x)))=true:=fun l=>by
  induction l with
  | nil=>rfl
  | cons a l ih=>exact ih
 exact h _
theorem Zpx (g:Nat) (N:Nat) (P:Nat→Bool):(Ul N P).map (Zb5 g)=Ul N P:=by
 unfold Ul;rw[List.map_map];exact Kv fun _ _=>rfl
theorem YC (N:Nat) (P:Nat→Bool):(Ul N P).flatMap Zo=[]:=by
 unfold Ul;rw[List.flatMap_map];simp[Zo,Zf]
theorem VC (g:Nat→Nat) (N:Nat) (P:Nat→Bool):(Ul N P).map (Jk g)=Ul N P:=by
 unfold Ul;rw[List.map_map];exact Kv fun _ _=>rfl
theorem YD (g:List Nat) (N:Nat) (P:Nat→Bool):(Ul N P).map (Zz g)=Ul N P:=by
 unfold Ul;rw[List.map_map];exact Kv fun _ _=>rfl
def ZaE (s:List Int) (x:Nat):Bool:=decide ((x:Int)∈s)
theorem Zf2 {s:List Int} {i n:Nat} (h:s[i]?=some (n:Int)):(fun z=>ZaE (s.take i) z || z==n)=ZaE (s.take (i+1)):=by
 funext z
 unfold ZaE;rw[KY,h,Bool.eq_iff_iff];simp only[K1,Kj,beq_iff_eq,Kd,Option.toList_some,KG];exact or_congr Iff.rfl Int.ofNat_inj.symm
theorem Zf3 {K:List (Int×Int)} {s:List Int} {i:Nat} {n:Int} (h:s[i]?=some n):okS K (s.take i) (s.drop i)=(okN K (s.take i) n&&okS K (s.take (i+1)) (s.drop (i+1))):=by
 obtain⟨h1,h2⟩:=Kc.1 h;rw[KB h1,h2,okS,KY,h];rfl
theorem Zd5 (K:List (Int×Int)) (s:List Int) (hK:∀ q∈K,0≤q.1∧q.1<255∧q.2<255) (hl:K.length≤255) (hs:s.length≤1048576):Zj Xs Ms XP [.d (.sl (K.map Jy)),.d (.sl (s.map Wd))] []=some ((.d (.bool (okS K [] s))),[]):=by
 refine cE ?_;simp +contextual -implicitDefEqProofs (maxSteps:=10^7) only[go_sem,seval,↓gZ,WO,Zol,Zpx,Zcu,ZkN];refine Wt Xs Ms (st0:=?st0) (α:=Nat) (fun i=>[(12,.d (J (i:Int)))]) (fun i=>[(0,.box (Ul 255 (ZaE (s.take i))))]) (fun i=>i≤s.length∧okS K (s.take i) (s.drop i)=okS K [] s) (fun i=>s.length-i) 0 ?hc ⟨by omega,by simp⟩ ?h0 ?step
 case hc=>simp +contextual -implicitDefEqProofs (maxSteps:=10^7) only[go_sem,seval,↓gZ,YC,VC,YD]<;>exact rfl
 case h0=>rfl
 case step=>
  intro i ⟨hi,hp⟩ ih;by_cases ae:i<s.length
  ·obtain⟨n,hx⟩:=QN ae;have hw:=ZQ (k:=i) (by omega);rw[Zf3 hx] at hp;have ef:=ZhP K n (by omega);have af:=Zf1 255 (ZaE (s.take i));rcases Zf0 K 0 n with ⟨h1,h2⟩ | ⟨j,q,h1,h2,h3,h4⟩
   ·have hn:okN K (s.take i) n=false:=by unfold okN;rw[h2]
    rw[hn,Lg] at hp;simp +contextual -implicitDefEqProofs (maxSteps:=10^7) only[go_sem,seval,↓gZ,hx,ae,hw,ef,h1,YC,VC,YD];rw[← hp]
   ·have hq:=hK q (Kr h2);obtain⟨n',rfl⟩:∃ m:Nat,n=(m:Int):=⟨n.toNat,by omega⟩
    rw[Lb] at h1;have ai:=(Kc.1 h2).1;have hn:okN K (s.take i) n'=(!ZaE (s.take i) n'&&(decide (q.2<0) || decide (q.2∈s.take i))):=by unfold okN ZaE;rw[h4]
    obtain⟨q1,q2⟩:=q;simp only at hq h3 hn;have aa:n' < 255:=by omega
    have ab : (n' : Int)<255:=by omega
    have ad:n'≤254:=by omega
    have ag:¬(j:Int)<0:=by omega
    have g1:=ZaK (ZaE (s.take i)) aa;have g3:=Zpw (ZaE (s.take i)) aa;rw[h1] at ef;cases hd:ZaE (s.take i) n' with
    | true=>
     rw[hd] at hn g1;rw[hn] at hp;simp only[Bool.not_true,Lg] at hp;simp +contextual -implicitDefEqProofs (maxSteps:=10^7) only[go_sem,seval,↓gZ,hx,ae,hw,ef,ag,aa,ab,g1,af,Lb,Nat.mul_one,YC,VC,YD];rw[← hp]
    | false=>
     rw[hd] at hn g1;rw[hn] at hp;simp only[Bool.not_false,Lj] at hp;by_cases h0:q2<0
     ·have ah:¬0≤q2:=by omega
      rw[LP h0,Bool.true_or,Lj] at hp;simp +contextual -implicitDefEqProofs (maxSteps:=10^7) only[go_sem,seval,↓gZ,hx,ae,hw,ef,ag,aa,ab,g1,af,Lb,Nat.mul_one,h2,ai,ah,g3,ad,Zcu,YC,VC,YD,Zf2 hx];refine ih (i+1) _ ⟨by omega,hp⟩ (by omega) ?_;simp +contextual -implicitDefEqProofs (maxSteps:=10^7) only[go_sem,seval,↓gZ,YC,VC,YD]
     ·have ah:0≤q2:=by omega
      obtain⟨a',rfl⟩:∃ m:Nat,q2=(m:Int):=⟨q2.toNat,by omega⟩
      have ha:a' < 255:=by omega
      have aj : (a' : Int)<255:=by omega
      have g2:=ZaK (ZaE (s.take i)) ha;rw[LL h0,Bool.false_or] at hp;cases hd2:ZaE (s.take i) a' with
      | true=>
       rw[hd2] at g2;have:decide ((a' : Int)∈s.take i)=true:=hd2;rw[this,Lj] at hp;simp +contextual -implicitDefEqProofs (maxSteps:=10^7) only[go_sem,seval,↓gZ,hx,ae,hw,ef,ag,aa,ab,g1,af,Lb,Nat.mul_one,h2,ai,ah,ha,aj,g2,g3,ad,Zcu,YC,VC,YD,Zf2 hx];refine ih (i+1) _ ⟨by omega,hp⟩ (by omega) ?_;simp +contextual -implicitDefEqProofs (maxSteps:=10^7) only[go_sem,seval,↓gZ,YC,VC,YD]
      | false=>
       rw[hd2] at g2;have:decide ((a' : Int)∈s.take i)=false:=hd2;rw[this,Lg] at hp;simp +contextual -implicitDefEqProofs (maxSteps:=10^7) only[go_sem,seval,↓gZ,hx,ae,hw,ef,ag,aa,ab,g1,af,Lb,Nat.mul_one,h2,ai,ah,ha,aj,g2,YC,VC,YD];rw[← hp]
  ·have:i=s.length:=by omega
   subst this;simp only[LD,okS] at hp;simp +contextual -implicitDefEqProofs (maxSteps:=10^7) only[go_sem,seval,↓gZ,YC,VC,YD];rw[← hp]
end Go.Proofs.Ytighjmleicikhaa
