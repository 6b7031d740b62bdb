/- Own text. -/
import Derived.Test.YtbpekaejmjlmfaaGreatACode
import Derived.Test.YtbpekaejmjlmfaaGreatAbsParts
import Derived.Test.YtbpekaejmjlmfaaGreatAC1
namespace Go.Proofs.YtbpekaejmjlmfaaGreat
open Go Go.Abs Go.Abs.E Go.Abs.L
open Nat (reduceMul reduceSub reduceLeDiff reduceEqDiff)
open Int (reduceLE reduceEq reduceToNat reduceNeg)
set_option linter.unusedSimpArgs false
set_option linter.unusedVariables false
set_option maxRecDepth 20000
set_option maxHeartbeats 4000000
def kn:BT→Int→Int→List (Int×Int)
 | .cut _ _ l r,n,a=>(n,a) :: (kn l (n+1) n++kn r (n+1+l.cnt) n)
 | .waste,_,_=>[]
 | .pane _ _,_,_=>[]
theorem UX:∀ {b:BT} {n a:Int} {q:Int×Int},q∈kn b n a→n≤q.1∧q.1<n+b.cnt∧((q.1=n∧q.2=a)∨(n≤q.2∧q.2<q.1))
 | .waste,n,a,q,h=>by simp[kn] at h
 | .pane _ _,n,a,q,h=>by simp[kn] at h
 | .cut d c l r,n,a,q,h=>by
  simp only[kn,Kg,Kf] at h;simp only[BT.cnt];rcases h with rfl | h | h
  ·exact⟨Kaa _,by simp only;omega,.inl ⟨rfl,rfl⟩⟩
  ·have:=UX h;omega
  ·have:=UX h;omega
theorem JH:∀ (b:BT) (n a:Int),(kn b n a).length≤b.cnt
 | .waste,n,a=>by simp[kn]
 | .pane _ _,n,a=>by simp[kn]
 | .cut d c l r,n,a=>by
  have h1:=JH l (n+1) n;have h2:=JH r (n+1+l.cnt) n;simp only[kn,BT.cnt,Km,Kp];omega
def UY (d:Bool) (a:Int) (b:Box):Box:=if d then ⟨b.X,b.Y,a,b.H⟩ else ⟨b.X,b.Y,b.W,a⟩
def J9 (d:Bool) (a:Int) (b:Box):Box:=if d then ⟨b.X+a,b.Y,b.W-a,b.H⟩ else ⟨b.X,b.Y+a,b.W,b.H-a⟩
def Zlw:BT→Int→Box→Int→Option (BT×Box)
 | .cut d a l r,n,g,m=>if m=n then some (.cut d a l r,g) else if m≤n+l.cnt then Zlw l (n+1) (UY d a g) m else Zlw r (n+1+l.cnt) (J9 d a g) m
 | .waste,n,g,m=>if m=n then some (.waste,g) else none
 | .pane i t,n,g,m=>if m=n then some (.pane i t,g) else none
theorem Zt2:∀ {b:BT} {n m:Int} {g c:Box} {q:BT},n≤m→Zlw b n g m=some (q,c)→(pt b g.X g.Y g.W g.H)[(m-n).toNat]?=some ⟨q.plan,c⟩∧m<n+b.cnt
 | .waste,n,m,g,c,q,hn,h=>by
  unfold Zlw at h;split at h
  ·rename_i e;cases h;subst e;simp[pt,BT.cnt];omega
  ·cases h
 | .pane i t,n,m,g,c,q,hn,h=>by
  unfold Zlw at h;split at h
  ·rename_i e;cases h;subst e;simp[pt,BT.cnt];omega
  ·cases h
 | .cut d a l r,n,m,g,c,q,hn,h=>by
  unfold Zlw at h;split at h
  ·rename_i e;cases h;subst e;simp only[Int.sub_self,pt,BT.cnt];exact⟨rfl,by omega⟩
  ·rename_i e;obtain⟨i,hi⟩:∃ i:Nat,(m-n).toNat=i+1:=⟨(m-n).toNat-1,by omega⟩
   split at h
   ·rename_i h2;obtain⟨k1,k2⟩:=Zt2 (by omega) h;have aa : (m-(n+1)).toNat=i:=by omega
    rw[aa] at k1;have hp:=WD l (UY d a g).X (UY d a g).Y (UY d a g).W (UY d a g).H;have k3:=(Kc.1 k1).1;refine⟨?_,by simp only[BT.cnt];omega⟩;rw[hi];cases d
    ·simp only[UY,Ka,Kj] at k1 k3;simp only[pt,KF,Ka,Kj];rw[KC k3];exact k1
    ·simp only[UY,Kk] at k1 k3;simp only[pt,KF,Kk];rw[KC k3];exact k1
   ·rename_i h2;obtain⟨k1,k2⟩:=Zt2 (by omega) h;refine⟨?_,by simp only[BT.cnt];omega⟩;rw[hi];cases d
    ·simp only[J9,Ka,Kj] at k1;have hp:=WD l g.X g.Y g.W a;simp only[pt,KF,Ka,Kj];rw[KD (by omega),← k1];congr 1;omega
    ·simp only[J9,Kk] at k1;have hp:=WD l g.X g.Y a g.H;simp only[pt,KF,Kk];rw[KD (by omega),← k1];congr 1;omega
def YE (dn:List Int):BT→Int→Box→List Box
 | .cut d a l r,n,g=>if n∈dn then YE dn l (n+1) (UY d a g)++YE dn r (n+1+l.cnt) (J9 d a g) else [g]
 | .waste,_,g=>[g]
 | .pane _ _,_,g=>[g]
def av (dn:List Int):BT→Int→Int→Prop
 | .cut _ _ l r,n,m=>if n∈dn then av dn l (n+1) m∨av dn r (n+1+l.cnt) m else m=n
 | .waste,_,_=>False
 | .pane _ _,_,_=>False
def Cl (dn:List Int):BT→Int→Prop
 | .cut _ _ l r,n=>(n∉dn→∀ m∈dn,m<n∨n+(1+l.cnt+r.cnt)≤m)∧Cl dn l (n+1)∧Cl dn r (n+1+l.cnt)
 | .waste,_=>True
 | .pane _ _,_=>True
theorem Zt3:∀ (b:BT) (n:Int),Cl [] b n
 | .waste,_=>trivial
 | .pane _ _,_=>trivial
 | .cut _ _ l r,n=>⟨fun _ m hm=>(by cases hm),Zt3 l _,Zt3 r _⟩
theorem ZyU (b:BT) (n:Int) (g:Box):YE [] b n g=[g]:=by cases b<;>simp[YE]
theorem Vm {dn:List Int} {m x:Int}:x∈dn++[m]↔x∈dn∨x=m:=by simp
theorem ZbM {dn:List Int}:∀ {b:BT} {n m:Int},av dn b n m→n≤m∧m<n+b.cnt
 | .waste,_,_,h=>h.elim
 | .pane _ _,_,_,h=>h.elim
 | .cut _ _ l r,n,m,h=>by
  unfold av at h;simp only[BT.cnt];split at h
  ·rcases h with h | h
   ·have:=ZbM h;omega
   ·have:=ZbM h;omega
  ·omega
theorem Ze9 {dn:List Int} {m:Int}:∀ {b:BT} {n:Int},Cl dn b n→(m<n∨n+b.cnt≤m)→Cl (dn++[m]) b n
 | .waste,_,_,_=>trivial
 | .pane _ _,_,_,_=>trivial
 | .cut _ _ l r,n,h,hm=>by
  simp only[BT.cnt] at hm;obtain⟨h1,h2,h3⟩:=h;refine⟨fun hn x hx=>?_,Ze9 h2 (by omega),Ze9 h3 (by omega)⟩;rw[Vm] at hn hx;rcases hx with hx | rfl
  ·exact h1 (fun h=>hn (.inl h)) x hx
  ·omega
theorem Zt4 {dn:List Int} {m:Int}:∀ {b:BT} {n:Int},Cl dn b n→av dn b n m→Cl (dn++[m]) b n
 | .waste,_,_,_=>trivial
 | .pane _ _,_,_,_=>trivial
 | .cut _ _ l r,n,h,ha=>by
  have hr:=ZbM ha;obtain⟨h1,h2,h3⟩:=h;unfold av at ha;refine⟨fun hn=>?_,?_⟩
  ·rw[Vm] at hn;split at ha
   ·rename_i hd;exact absurd (.inl hd) hn
   ·exact absurd (.inr ha.symm) hn
  ·split at ha
   ·rcases ha with ha | ha
    ·have:=ZbM ha;exact⟨Zt4 h2 ha,Ze9 h3 (by omega)⟩
    ·have:=ZbM ha;exact⟨Ze9 h2 (by omega),Zt4 h3 ha⟩
   ·exact⟨Ze9 h2 (by omega),Ze9 h3 (by omega)⟩
theorem Zii {dn:List Int} {m:Int}:∀ {b:BT} {n:Int} {g:Box},(m<n∨n+b.cnt≤m)→YE (dn++[m]) b n g=YE dn b n g
 | .waste,_,_,_=>rfl
 | .pane _ _,_,_,_=>rfl
 | .cut d a l r,n,g,hm=>by
  simp only[BT.cnt] at hm;have e:(n∈dn++[m])=(n∈dn):=by rw[Vm];exact propext ⟨fun h=>h.resolve_right (by omega),.inl⟩
  simp only[YE,e];rw[Zii (b:=l) (by omega),Zii (b:=r) (by omega)]
theorem Zvz {dn:List Int} {b:BT} {n:Int} {g:Box} (h:∀ m∈dn,m<n∨n+b.cnt≤m):YE dn b n g=[g]:=by
 cases b with
 | cut d a l r=>
  have:n∉dn:=fun hn=>by have:=h n hn;simp only[BT.cnt] at this;omega
  simp only[YE,this,Kj]
 | _=>rfl
def Zeq (g:Box):Prop:=1≤g.W∧1≤g.H
theorem ZyV {ps:List Pane} {d:Bool} {a:Int} {l r:BT} {g:Box} (hf:QF ps (.cut d a l r) g.W g.H=true) (hg:Zeq g) :
  (QF ps l (UY d a g).W (UY d a g).H=true∧QF ps r (J9 d a g).W (J9 d a g).H=true)∧(Zeq (UY d a g)∧Zeq (J9 d a g))∧(ZT (UY d a g) g∧ZT (J9 d a g) g) ∧
  ∀ x y,ZT x (UY d a g)→ZT y (J9 d a g)→¬Xu x y:=by
 unfold Zeq at hg ⊢;cases d
 ·simp only[QF,Kd,Ka,Kj,Kr] at hf;simp only[UY,J9,Ka,Kj,ZT];refine⟨⟨hf.1.2,hf.2⟩,by omega,by omega,fun x y h1 h2=>?_⟩;unfold Xu;omega
 ·simp only[QF,Kd,Kk,Kr] at hf;simp only[UY,J9,Kk,ZT];refine⟨⟨hf.1.2,hf.2⟩,by omega,by omega,fun x y h1 h2=>?_⟩;unfold Xu;omega
theorem Zcs {a b c:Box} (h1:ZT a b) (h2:ZT b c):ZT a c:=by unfold ZT at *;omega
theorem Zd0 (a:Box):ZT a a:=by unfold ZT;omega
theorem Zt5 {ps:List Pane} {dn:List Int}:∀ {b:BT} {n:Int} {g:Box},QF ps b g.W g.H=true→Zeq g→(∀ c∈YE dn b n g,ZT c g∧Zeq c)∧(YE dn b n g).Pairwise fun x y=>¬Xu x y
 | .waste,_,g,_,hg=>by simp only[YE];exact⟨fun c hc=>by rw[KH.1 hc];exact⟨Zd0 g,hg⟩,by simp⟩
 | .pane _ _,_,g,_,hg=>by simp only[YE];exact⟨fun c hc=>by rw[KH.1 hc];exact⟨Zd0 g,hg⟩,by simp⟩
 | .cut d a l r,n,g,hf,hg=>by
  obtain⟨⟨f1,f2⟩,⟨p1,p2⟩,⟨i1,i2⟩,ha⟩:=ZyV hf hg;obtain⟨a1,a2⟩:=Zt5 (dn:=dn) (n:=n+1) f1 p1;obtain⟨b1,b2⟩:=Zt5 (dn:=dn) (n:=n+1+l.cnt) f2 p2;simp only[YE];split
  ·refine⟨fun c hc=>?_,LA.2 ⟨a2,b2,fun x hx y hy=>ha x y (a1 x hx).1 (b1 y hy).1⟩⟩;rcases Kf.1 hc with hc | hc
   ·exact⟨Zcs (a1 c hc).1 i1,(a1 c hc).2⟩
   ·exact⟨Zcs (b1 c hc).1 i2,(b1 c hc).2⟩
  ·exact⟨fun c hc=>by rw[KH.1 hc];exact⟨Zd0 g,hg⟩,by simp⟩
theorem ZzH {ps:List Pane} {dn:List Int} {b:BT} {n:Int} {g:Box} (hf:QF ps b g.W g.H=true) (hg:Zeq g):(YE dn b n g).Nodup:=by
 obtain⟨h1,h2⟩:=Zt5 (dn:=dn) (n:=n) hf hg;refine List.Pairwise.imp_of_mem (fun {x y} hx _ hm e=>hm ?_) h2;subst e;have:=(h1 x hx).2;unfold Zeq at this;unfold Xu;omega
theorem ZoQ {ps:List Pane} {dn:List Int} {m:Int}:∀ {b:BT} {n:Int} {g:Box},Cl dn b n→av dn b n m→QF ps b g.W g.H=true→Zeq g →
  ∃ d a l r c,Zlw b n g m=some (.cut d a l r,c)∧QF ps (.cut d a l r) c.W c.H=true∧ZT c g∧Zeq c∧c∈YE dn b n g∧(YE (dn++[m]) b n g).Perm ((YE dn b n g).erase c++[UY d a c,J9 d a c])
 | .waste,_,_,_,h,_,_=>h.elim
 | .pane _ _,_,_,_,h,_,_=>h.elim
 | .cut d a l r,n,g,hC,ha,hf,hg=>by
  obtain⟨h1,h2,h3⟩:=hC;obtain⟨⟨f1,f2⟩,⟨p1,p2⟩,⟨i1,i2⟩,aa⟩:=ZyV hf hg;unfold av at ha;by_cases hn:n∈dn
  ·rw[Kl hn] at ha;have e1:YE dn (.cut d a l r) n g=YE dn l (n+1) (UY d a g)++YE dn r (n+1+l.cnt) (J9 d a g):=by simp only[YE,hn,Kk]
   have e2:YE (dn++[m]) (.cut d a l r) n g=YE (dn++[m]) l (n+1) (UY d a g)++YE (dn++[m]) r (n+1+l.cnt) (J9 d a g):=by
    have:n∈dn++[m]:=Vm.2 (.inl hn);simp only[YE,this,Kk]
   rw[e1,e2];rcases ha with ha | ha
   ·have hr:=ZbM ha;obtain⟨d',a',l',r',c,k1,k2,k3,k4,k5,k6⟩:=ZoQ h2 ha f1 p1;refine⟨d',a',l',r',c,?_,k2,Zcs k3 i1,k4,List.mem_append_left _ k5,?_⟩
    ·unfold Zlw;rw[Ki (by omega),Kl (by omega)];exact k1
    ·rw[Zii (b:=r) (by omega),List.erase_append_left _ k5];refine(k6.append_right _).trans ?_;rw[K6,K6];exact List.Perm.append_left _ List.perm_append_comm
   ·have hr:=ZbM ha;obtain⟨d',a',l',r',c,k1,k2,k3,k4,k5,k6⟩:=ZoQ h3 ha f2 p2;refine⟨d',a',l',r',c,?_,k2,Zcs k3 i2,k4,List.mem_append_right _ k5,?_⟩
    ·unfold Zlw;rw[Ki (by omega),Ki (by omega)];exact k1
    ·rw[Zii (b:=l) (by omega)];have q1:((YE dn l (n+1) (UY d a g)++YE dn r (n+1+l.cnt) (J9 d a g)).erase c).Perm (YE dn l (n+1) (UY d a g)++(YE dn r (n+1+l.cnt) (J9 d a g)).erase c):=by
      refine(List.perm_append_comm.erase c).trans ?_;rw[List.erase_append_left _ k5];exact List.perm_append_comm
     refine(List.Perm.append_left _ k6).trans ?_;rw[← K6];exact(q1.append_right _).symm
  ·rw[Ki hn] at ha;subst ha;have hz:=h1 hn;refine⟨d,a,l,r,g,by unfold Zlw;rw[Kl rfl],hf,Zd0 g,hg,?_,?_⟩
   ·simp only[YE,hn,Kj];simp
   ·have:m∈dn++[m]:=Vm.2 (.inr rfl);have e1:YE dn (.cut d a l r) m g=[g]:=by simp only[YE,hn,Kj]
    have e2:YE (dn++[m]) (.cut d a l r) m g=YE (dn++[m]) l (m+1) (UY d a g)++YE (dn++[m]) r (m+1+l.cnt) (J9 d a g):=by simp only[YE,this,Kk]
    rw[e1,e2,Zvz (b:=l),Zvz (b:=r)]
    ·simp
    ·intro x hx;rcases Vm.1 hx with hx | rfl
     ·have:=hz x hx;omega
     ·omega
    ·intro x hx;rcases Vm.1 hx with hx | rfl
     ·have:=hz x hx;omega
     ·omega
theorem ZA1 {dn:List Int} {m ab:Int}:∀ {b:BT} {n a:Int},(m,ab)∈kn b n a→Cl dn b n→m∉dn→(m=n∨ab∈dn)→av dn b n m
 | .waste,n,a,h,_,_,_=>by simp[kn] at h
 | .pane _ _,n,a,h,_,_,_=>by simp[kn] at h
 | .cut d c l r,n,a,h,hC,hm,ho=>by
  have hr:=UX h;simp only[BT.cnt] at hr;obtain⟨h1,h2,h3⟩:=hC;simp only[kn,Kg,Kf,Prod.mk.injEq] at h;unfold av;by_cases hn:n∈dn
  ·rw[Kl hn];rcases h with ⟨rfl,rfl⟩ | h | h
   ·exact absurd hn hm
   ·have hk:=UX h;refine .inl (ZA1 h h2 hm ?_);rcases ho with rfl | ho
    ·simp only at hk;omega
    ·exact .inr ho
   ·have hk:=UX h;refine .inr (ZA1 h h3 hm ?_);rcases ho with rfl | ho
    ·simp only at hk;omega
    ·exact .inr ho
  ·rw[Ki hn];rcases ho with rfl | ho
   ·rfl
   ·have:=h1 hn ab ho;omega
def okN (K:List (Int×Int)) (dn:List Int) (m:Int):Bool:=match K.find? fun q=>q.1==m with
 | some q=>!decide (m∈dn)&&(decide (q.2<0) || decide (q.2∈dn))
 | none=>false
def okS (K:List (Int×Int)):List Int→List Int→Bool
 | _,[]=>true
 | dn,m :: r=>okN K dn m&&okS K (dn++[m]) r
theorem okN_av {b:BT} {dn:List Int} {m:Int} (h:okN (kn b 0 (-1)) dn m=true) (hC:Cl dn b 0):av dn b 0 m:=by
 unfold okN at h;split at h
 ·rename_i q hq;obtain⟨x,y⟩:=q;have h1:=List.find?_some hq;have h2:=List.mem_of_find?_eq_some hq;simp only[beq_iff_eq] at h1;subst h1;simp only[Kd,KS,KT,Lj,Kr] at h;refine ZA1 h2 hC h.1 ?_;rcases h.2 with h | h
  ·left;have:=UX h2;simp only at this;omega
  ·exact .inr h
 ·cases h
theorem ZyW {ps:List Pane} {b:BT} {g:Box} {dn:List Int} {m:Int} {t:List Box} (hf:QF ps b g.W g.H=true) (hg:Zeq g) (hC:Cl dn b 0) (ht:t.Perm (YE dn b 0 g)) (ho:okN (kn b 0 (-1)) dn m=true) :
  ∃ d a l r c,(0≤m∧m<b.cnt)∧Zlw b 0 g m=some (.cut d a l r,c)∧QF ps (.cut d a l r) c.W c.H=true∧ZT c g∧Zeq c∧c∈t∧t.Nodup∧Cl (dn++[m]) b 0∧(t.erase c++[UY d a c,J9 d a c]).Perm (YE (dn++[m]) b 0 g):=by
 have ha:=okN_av ho hC;have hr:=ZbM ha;obtain⟨d,a,l,r,c,h1,h2,h3,h4,h5,h6⟩:=ZoQ hC ha hf hg;exact⟨d,a,l,r,c,by omega,h1,h2,h3,h4,ht.mem_iff.2 h5,ht.nodup_iff.2 (ZzH hf hg),Zt4 hC ha,((ht.erase c).append_right _).trans h6.symm⟩
def goS (b:BT) (g:Box):List Box→List Int→List Box
 | t,[]=>t
 | t,m :: r=>match Zlw b 0 g m with
  | some (.cut d a _ _,c)=>goS b g (t.erase c++[UY d a c,J9 d a c]) r
  | _=>goS b g t r
theorem ZvA {b:BT} {g c:Box} {t:List Box} {m a:Int} {r:List Int} {d:Bool} {l r' : BT} (h:Zlw b 0 g m=some (.cut d a l r',c)):goS b g t (m :: r)=goS b g (t.erase c++[UY d a c,J9 d a c]) r:=by rw[goS,h]
def Zke (k:Zs) (p:Ze) (s:List Int):Option (List Box):=match Xz p with
 | some b=>if Q6 k p&&okS (kn b 0 (-1)) [] s then some (goS b ⟨0,0,k.W,k.H⟩ [⟨0,0,k.W,k.H⟩] s) else none
 | none=>none
theorem ZyX {ps:List Pane} {b:BT} {g:Box} (hf:QF ps b g.W g.H=true) (hg:Zeq g):∀ {s dn:List Int} {t:List Box},Cl dn b 0→t.Perm (YE dn b 0 g)→okS (kn b 0 (-1)) dn s=true→(goS b g t s).Perm (YE (dn++s) b 0 g)∧Cl (dn++s) b 0
 | [],dn,t,hC,ht,ho=>by simpa [goS] using ⟨ht,hC⟩
 | m :: r,dn,t,hC,ht,ho=>by
  simp only[okS,Kd] at ho;obtain⟨d,a,l,r',c,_,h1,_,_,_,_,_,h7,h8⟩:=ZyW hf hg hC ht ho.1;rw[ZvA h1];have:=ZyX hf hg h7 h8 ho.2
  rwa [K6,List.singleton_append] at this
def Zfa (q:Int×Int):D:=.agg [J q.1,J q.2]
@[go_sem] theorem encK_mk (a b:Int):Zfa (a,b)=.agg [J a,J b]:=rfl
@[go_sem] theorem uni_K (l:List (Int×Int)):uni 2 (l.map Zfa)=True:=eq_true (ZaT l fun _=>rfl)
@[go_sem] theorem flat_K (l:List (Int×Int)):Q7 (l.map Zfa)=True:=eq_true (Zb2 l fun _=>rfl)
def kaV (b:BT) (xs:List D) (n a:Int):AV×List Zn:=match b with
 | .cut d c l r=>(.tup [.own 1,(.d (J (n+((BT.cut d c l r).cnt:Nat))))],[.gone,.row 2 (xs++(kn (.cut d c l r) n a).map Zfa) true false])
 | _=>(.tup [.own 0,(.d (J (n+1)))],[.row 2 xs true false])
theorem Zij (b:BT):(∃ d c l r,b=.cut d c l r)∨(b.cnt=1∧(∀ n a,kn b n a=[])∧∀ xs n a,kaV b xs n a=(.tup [.own 0,(.d (J (n+1)))],[.row 2 xs true false])):=by
 cases b with
 | cut d' c' l' r'=>exact .inl ⟨_,_,_,_,rfl⟩
 | _=>exact .inr ⟨rfl,fun _ _=>rfl,fun _ _ _=>rfl⟩
theorem Zik {b:BT} {xs:List D} {n a:Int} (h:∃ d c l r,b=.cut d c l r):kaV b xs n a=(.tup [.own 1,(.d (J (n+(b.cnt:Nat))))],[.gone,.row 2 (xs++(kn b n a).map Zfa) true false]):=by
 obtain⟨d,c,l,r,rfl⟩:=h;rfl
theorem Zaa:∀ (b:BT) (xs:List D) (n a:Int),0≤n→n+b.cnt≤1000→xs.length+b.cnt≤1000 →
  Zd Xs Ms Qn [.own 0,.d b.plan.enc,(.d (J n)),(.d (J a))] [.row 2 xs true false]=some (kaV b xs n a)
 | .waste,xs,n,a,h0,h1,h2=>by
  have w1:=wi (n+1) (by omega) (by simp only[BT.cnt] at h1;omega);simp only[BT.plan,Ze.enc_mk,kaV];refine cE ?_;simp +contextual -implicitDefEqProofs (maxSteps:=10^7) only[go_sem,seval,↓gZ,Qy,Zr,w1]
 | .pane i t,xs,n,a,h0,h1,h2=>by
  have w1:=wi (n+1) (by omega) (by simp only[BT.cnt] at h1;omega);simp only[BT.plan,Ze.enc_mk,kaV];refine cE ?_;simp +contextual -implicitDefEqProofs (maxSteps:=10^7) only[go_sem,seval,↓gZ,Qy,Zr,w1]
 | .cut d c l r,xs,n,a,h0,h1,h2=>by
  simp only[BT.cnt] at h1 h2;have w1:=wi (n+1) (by omega) (by omega);have hr:(xs.length+1)*16≤140737488355328∧xs.length≤140737488355327:=by omega
  have kl:=JH l (n+1) n;have e1:=Zaa l (xs++[.agg [J n,J a]]) (n+1) n (by omega) (by omega) (by simp only[Kp,Km,KI];omega);have e2:=Zaa r (xs++[.agg [J n,J a]]++(kn l (n+1) n).map Zfa) (n+1+l.cnt) n (by omega) (by omega) (by simp only[Kp,Km,KI,Kv];omega);have e3:n+((1+l.cnt+r.cnt:Nat):Int)=n+1+l.cnt+r.cnt:=by push_cast;omega
  have hd:(Z9 d=2∨Z9 d=3)=True:=eq_true (by cases d<;>simp[Z9]);simp only[BT.plan,Ze.enc_mk,kaV,kn,BT.cnt,e3];rcases Zij l with hl | ⟨af,ag,ah⟩
  ·rw[Zik hl] at e1;rcases Zij r with aa | ⟨ab,ad,ae⟩
   ·rw[Zik aa] at e2;refine cE ?_;simp +contextual -implicitDefEqProofs (maxSteps:=10^7) only[go_sem,seval,↓gZ,Qy,Zr,hd,hr,w1,e1,e2];try (simp[Zfa];done)
   ·rw[ae] at e2;rw[ad,ab];refine cE ?_;simp +contextual -implicitDefEqProofs (maxSteps:=10^7) only[go_sem,seval,↓gZ,Qy,Zr,hd,hr,w1,e1,e2];try (simp[Zfa];done)
  ·rw[ah] at e1;rw[ag,af,Kz,KJ,show ((1:Nat):Int)=1 from rfl] at e2;rw[ag,af,show ((1:Nat):Int)=1 from rfl];rcases Zij r with aa | ⟨ab,ad,ae⟩
   ·rw[Zik aa] at e2;refine cE ?_;simp +contextual -implicitDefEqProofs (maxSteps:=10^7) only[go_sem,seval,↓gZ,Qy,Zr,hd,hr,w1,e1,e2];try (simp[Zfa];done)
   ·rw[ae] at e2;rw[ad,ab];refine cE ?_;simp +contextual -implicitDefEqProofs (maxSteps:=10^7) only[go_sem,seval,↓gZ,Qy,Zr,hd,hr,w1,e1,e2];try (simp[Zfa];done)
theorem ZoR:∀ (b:BT),b.cnt≤255→Zd Xs Ms Qn [.nil,.d b.plan.enc,(.d (J 0)),(.d (J (-1)))] []=some (.tup [.own 0,(.d (J ((b.cnt:Nat))))],[.row 2 ((kn b 0 (-1)).map Zfa) true false])
 | .waste,h2=>by
  simp only[BT.plan,Ze.enc_mk,kn,BT.cnt];refine cE ?_;simp +contextual -implicitDefEqProofs (maxSteps:=10^7) only[go_sem,seval,↓gZ,Qy,Zr]
 | .pane i t,h2=>by
  simp only[BT.plan,Ze.enc_mk,kn,BT.cnt];refine cE ?_;simp +contextual -implicitDefEqProofs (maxSteps:=10^7) only[go_sem,seval,↓gZ,Qy,Zr]
 | .cut d c l r,h2=>by
  simp only[BT.cnt] at h2;have hr:1*16≤ZI∧1≤ZI:=by unfold ZI;omega
  have kl:=JH l 1 0;have e1:=Zaa l [.agg [J 0,J (-1)]] 1 0 (by omega) (by omega) (by simp only[Km,KI];omega);have e2:=Zaa r (.agg [J 0,J (-1)] :: (kn l 1 0).map Zfa) (1+l.cnt) 0 (by omega) (by omega) (by simp only[Km,Kv] at kl ⊢;omega);have e3:((1+l.cnt+r.cnt:Nat):Int)=1+l.cnt+r.cnt:=by push_cast;omega
  have hd:(Z9 d=2∨Z9 d=3)=True:=eq_true (by cases d<;>simp[Z9]);simp only[BT.plan,Ze.enc_mk,kn,BT.cnt,e3,Int.zero_add];rcases Zij l with hl | ⟨af,ag,ah⟩
  ·rw[Zik hl] at e1;rcases Zij r with aa | ⟨ab,ad,ae⟩
   ·rw[Zik aa] at e2;refine cE ?_;simp +contextual -implicitDefEqProofs (maxSteps:=10^7) only[go_sem,seval,↓gZ,Qy,Zr,hd,hr,e1,e2];try (simp[Zfa];done)
   ·rw[ae] at e2;rw[ad,ab];refine cE ?_;simp +contextual -implicitDefEqProofs (maxSteps:=10^7) only[go_sem,seval,↓gZ,Qy,Zr,hd,hr,e1,e2];try (simp[Zfa];done)
  ·rw[ah,show (1:Int)+1=2 from rfl] at e1;rw[ag,af,Kz,show ((1:Nat):Int)=1 from rfl,show (1:Int)+1=2 from rfl] at e2;rw[ag,af,show ((1:Nat):Int)=1 from rfl,show (1:Int)+1=2 from rfl];rcases Zij r with aa | ⟨ab,ad,ae⟩
   ·rw[Zik aa] at e2;refine cE ?_;simp +contextual -implicitDefEqProofs (maxSteps:=10^7) only[go_sem,seval,↓gZ,Qy,Zr,hd,hr,e1,e2];try (simp[Zfa];done)
   ·rw[ae] at e2;rw[ad,ab];refine cE ?_;simp +contextual -implicitDefEqProofs (maxSteps:=10^7) only[go_sem,seval,↓gZ,Qy,Zr,hd,hr,e1,e2];try (simp[Zfa];done)
def Zg6 (p:Ze):List (Int×Int):=match Xz p with
 | some b=>if b.cnt≤255 then kn b 0 (-1) else []
 | none=>[]
def wfP (p:Ze):Bool:=decide (0≤Zu 255 (Xz p))
theorem Zct (p:Ze):Zd Xs Ms VL [.d p.enc] []=some (.tup [.own 0,(.d (.bool (wfP p)))],[.row 2 ((Zg6 p).map Zfa) true false]):=by
 have hs:=Wi p;unfold wfP Zg6;cases hb:Xz p with
 | none=>
  rw[hb] at hs;obtain⟨o,a,q,t,ks⟩:=p;rw[Ze.enc_mk] at hs ⊢;refine cE ?_;simp +contextual -implicitDefEqProofs (maxSteps:=10^7) only[go_sem,seval,↓gZ,ZbZ,hs,Zu]
 | some b=>
  have hp:=ZcO hb;rw[hb] at hs;have hc:=b.cnt_pos;have hz:=Ql 255 b;by_cases h2:b.cnt≤255
  ·have h3:Zu 255 (some b)=b.cnt:=by omega
   have h4:¬(b.cnt:Int)<0:=by omega
   have ek:=ZoR b h2;rw[← hp] at ek;rw[h3] at hs ⊢;simp only[h2,Kk];obtain⟨o,a,q,t,ks⟩:=p;rw[Ze.enc_mk] at hs ek ⊢;refine cE ?_;simp +contextual -implicitDefEqProofs (maxSteps:=10^7) only[go_sem,seval,↓gZ,ZbZ,hs,h4,ek]
  ·have h3:Zu 255 (some b)=-1:=by omega
   rw[h3] at hs ⊢;simp only[h2,Kj];obtain⟨o,a,q,t,ks⟩:=p;rw[Ze.enc_mk] at hs ⊢;refine cE ?_;simp +contextual -implicitDefEqProofs (maxSteps:=10^7) only[go_sem,seval,↓gZ,ZbZ,hs]
def fKn:Nat→List (Int×Int)→Int→Int
 | _,[],_=>-1
 | k,x :: l,n=>if x.1=n then (k:Int) else fKn (k+1) l n
theorem ZA2 {l:List (Int×Int)} {k:Nat} {x:Int×Int} {n:Int} (hx:l[k]?=some x):fKn k (l.drop k) n=if x.1=n then (k:Int) else fKn (k+1) (l.drop (k+1)) n:=by
 obtain⟨h1,h2⟩:=Kc.1 hx;rw[Ku h1,h2,fKn]
theorem ZvB:∀ (l:List (Int×Int)) (k:Nat) (n:Int),(fKn k l n<0∧(l.find? fun q=>q.1==n)=none)∨∃ i q,fKn k l n=((k+i:Nat):Int)∧l[i]?=some q∧q.1=n∧(l.find? fun q=>q.1==n)=some q
 | [],k,n=>.inl ⟨by simp[fKn],rfl⟩
 | x :: l,k,n=>by
  by_cases h:x.1=n
  ·exact .inr ⟨0,x,by simp[fKn,h],rfl,h,by simp[List.find?,h]⟩
  ·rcases ZvB l (k+1) n with ⟨h1,h2⟩ | ⟨i,q,h1,h2,h3,h4⟩
   ·exact .inl ⟨by simp only[fKn,h,Kj];exact h1,by rw[List.find?_cons_of_neg (by simpa using h)];exact h2⟩
   ·exact .inr ⟨i+1,q,by simp only[fKn,h,Kj];rw[h1];congr 1;omega,by simpa using h2,h3,by rw[List.find?_cons_of_neg (by simpa using h)];exact h4⟩
theorem ZnE (a b n:Int):Zd Xs Ms Vz [.d (.agg [J a,J b]),.ptr 0 0] [.box [(.d (J n))]]=some ((.d (.bool (decide (a=n)))),[.box [(.d (J n))]]):=by
 refine cE ?_;simp +contextual -implicitDefEqProofs (maxSteps:=10^7) only[go_sem,seval,↓gZ,Zdq]
theorem ZvC (l:List (Int×Int)) (n:Int) (hl:l.length<4611686018427387904):Zd Xs Ms Xq [.d (.sl (l.map Zfa)),.clo Vz [.ptr 0 0]] [.box [(.d (J n))]]=some ((.d (J (fKn 0 l n))),[.box [(.d (J n))]]):=by
 refine cE ?_;simp +contextual -implicitDefEqProofs (maxSteps:=10^7) only[go_sem,seval,↓gZ,WA];refine LO (α:=Nat) (fun k=>[(8,.d (J (k:Int)))]) (fun _=>[]) (fun k=>k≤l.length∧fKn k (l.drop k) n=fKn 0 l n) (fun k=>l.length-k) 0 ⟨by omega,rfl⟩ ?_;intro k ⟨hk,hp⟩ ih;by_cases aa:k<l.length
 ·obtain⟨x,hx⟩:=Zl aa;rw[ZA2 hx] at hp;have hw:=Zh (k:=k) (by omega);have e1:=ZnE x.1 x.2 n;obtain⟨a,b⟩:=x;simp only at hp e1;by_cases h:a=n
  ·rw[Kl h] at hp;rw[Ke h] at e1;simp +contextual -implicitDefEqProofs (maxSteps:=10^7) only[go_sem,seval,↓gZ,hx,aa,hw,e1];rw[← hp]
  ·rw[Ki h] at hp;rw[Kh h] at e1;simp +contextual -implicitDefEqProofs (maxSteps:=10^7) only[go_sem,seval,↓gZ,hx,aa,hw,e1];refine ih (k+1) _ ⟨by omega,hp⟩ (by omega) ?_;simp +contextual -implicitDefEqProofs (maxSteps:=10^7) only[go_sem,seval,↓gZ]
 ·have:k=l.length:=by omega
  subst this;simp +contextual -implicitDefEqProofs (maxSteps:=10^7) only[go_sem,seval,↓gZ];rw[← hp];simp[fKn]
theorem Zrz (l:List (Int×Int)) (n:Int) (hl:l.length<4611686018427387904):Zd Xs Ms Zal [.d (.sl (l.map Zfa)),(.d (J n))] []=some ((.d (J (fKn 0 l n))),[]):=by
 have e1:=ZvC l n hl;refine cE ?_;simp +contextual -implicitDefEqProofs (maxSteps:=10^7) only[go_sem,seval,↓gZ,ZfP,e1]
def ZcW (N:Nat) (P:Nat→Bool):List AV:=(List.range N).map fun x=>.d (.bool (P x))
theorem ZoS (N:Nat) (P:Nat→Bool):(ZcW N P).length=N:=by simp[ZcW]
theorem Zg7 {N:Nat} (P:Nat→Bool) {x:Nat} (h:x<N):(ZcW N P)[x]?=some (.d (.bool (P x))):=by
 simp[ZcW,h]
theorem splice_one {α:Type} {cs:List α} {x:Nat} {v:α} (h:x<cs.length):Zw cs x [v]=cs.set x v:=by
 rw[List.set_eq_take_append_cons_drop,Kl h];simp[Zw]
theorem ZA3 {N:Nat} (P:Nat→Bool) {x:Nat} (h:x<N):Zw (ZcW N P) x [.d (.bool true)]=ZcW N (fun z=>P z || z==x):=by
 rw[splice_one (by rw[ZoS];exact h)];refine Lr fun i=>?_;rw[LI,ZoS];by_cases h1:i<N
 ·by_cases h2:x=i
  ·subst h2;rw[Kl rfl,Kl h,Zg7 _ h,beq_self_eq_true,Bool.or_true]
  ·rw[Ki h2,Zg7 _ h1,Zg7 _ h1];have h3:(i==x)=false:=beq_false_of_ne fun e=>h2 e.symm;rw[h3,Bool.or_false]
 ·rw[Ki (by omega)];simp[ZcW,h1]
theorem ZzI (N:Nat):List.replicate N (AV.d (.bool false))=ZcW N (fun _=>false):=by
 unfold ZcW;rw[List.map_const',List.length_range]
theorem ZvD (N:Nat) (P:Nat→Bool):ZhL (ZcW N P)=false:=by
 have h:∀ l:List Nat,ZhL (l.map fun x=>AV.d (.bool (P x)))=false:=fun l=>by
  induction l with
  | nil=>rfl
  | cons a l ih=>exact ih
 exact h _
theorem Zjp (N:Nat) (P:Nat→Bool):XD (ZcW N P)=true:=by
 have h:∀ l:List Nat,XD (l.map fun x=>AV.d (.bool (P x)))=true:=fun l=>by
  induction l with
  | nil=>rfl
  | cons a l ih=>exact ih
 exact h _
theorem ZA4 (g:Nat) (N:Nat) (P:Nat→Bool):(ZcW N P).map (ZiS g)=ZcW N P:=by
 unfold ZcW;rw[List.map_map];exact KM fun _ _=>rfl
theorem Uq (N:Nat) (P:Nat→Bool):(ZcW N P).flatMap ZA=[]:=by
 unfold ZcW;rw[List.flatMap_map];simp[ZA,Zo]
theorem Zab (g:Nat→Nat) (N:Nat) (P:Nat→Bool):(ZcW N P).map (ZeS g)=ZcW N P:=by
 unfold ZcW;rw[List.map_map];exact KM fun _ _=>rfl
theorem Ur (g:List Nat) (N:Nat) (P:Nat→Bool):(ZcW N P).map (ZW g)=ZcW N P:=by
 unfold ZcW;rw[List.map_map];exact KM fun _ _=>rfl
def ZgN (s:List Int) (x:Nat):Bool:=decide ((x:Int)∈s)
theorem ZoT {s:List Int} {i n:Nat} (h:s[i]?=some (n:Int)):(fun z=>ZgN (s.take i) z || z==n)=ZgN (s.take (i+1)):=by
 funext z
 unfold ZgN;rw[Kw,h,Bool.eq_iff_iff];simp only[Lj,Kr,beq_iff_eq,Kf,Ly,KH];exact or_congr Iff.rfl Int.ofNat_inj.symm
theorem ZvE {K:List (Int×Int)} {s:List Int} {i:Nat} {n:Int} (h:s[i]?=some n):okS K (s.take i) (s.drop i)=(okN K (s.take i) n&&okS K (s.take (i+1)) (s.drop (i+1))):=by
 obtain⟨h1,h2⟩:=Kc.1 h;rw[Ku h1,h2,okS,Kw,h];rfl
theorem Zfb (K:List (Int×Int)) (s:List Int) (hK:∀ q∈K,0≤q.1∧q.1<255∧q.2<255) (hl:K.length≤255) (hs:s.length≤1048576):Zd Xs Ms YM [.d (.sl (K.map Zfa)),.d (.sl (s.map Qg))] []=some ((.d (.bool (okS K [] s))),[]):=by
 refine cE ?_;simp +contextual -implicitDefEqProofs (maxSteps:=10^7) only[go_sem,seval,↓gZ,Zcc,ZzI,ZA4,Zjp,ZvD];refine XP Xs Ms (st0:=?st0) (α:=Nat) (fun i=>[(12,.d (J (i:Int)))]) (fun i=>[(0,.box (ZcW 255 (ZgN (s.take i))))]) (fun i=>i≤s.length∧okS K (s.take i) (s.drop i)=okS K [] s) (fun i=>s.length-i) 0 ?hc ⟨by omega,by simp⟩ ?h0 ?step
 case hc=>simp +contextual -implicitDefEqProofs (maxSteps:=10^7) only[go_sem,seval,↓gZ,Uq,Zab,Ur]<;>exact rfl
 case h0=>rfl
 case step=>
  intro i ⟨hi,hp⟩ ih;by_cases ae:i<s.length
  ·obtain⟨n,hx⟩:=Zl ae;have hw:=Zh (k:=i) (by omega);rw[ZvE hx] at hp;have ef:=Zrz K n (by omega);have af:=ZoS 255 (ZgN (s.take i));rcases ZvB K 0 n with ⟨h1,h2⟩ | ⟨j,q,h1,h2,h3,h4⟩
   ·have hn:okN K (s.take i) n=false:=by unfold okN;rw[h2]
    rw[hn,LU] at hp;simp +contextual -implicitDefEqProofs (maxSteps:=10^7) only[go_sem,seval,↓gZ,hx,ae,hw,ef,h1,Uq,Zab,Ur];rw[← hp]
   ·have hq:=hK q (Kb h2);obtain⟨n',rfl⟩:∃ m:Nat,n=(m:Int):=⟨n.toNat,by omega⟩
    rw[K4] at h1;have ai:=(Kc.1 h2).1;have hn:okN K (s.take i) n'=(!ZgN (s.take i) n'&&(decide (q.2<0) || decide (q.2∈s.take i))):=by unfold okN ZgN;rw[h4]
    obtain⟨q1,q2⟩:=q;simp only at hq h3 hn;have aa:n' < 255:=by omega
    have ab : (n' : Int)<255:=by omega
    have ad:n'≤254:=by omega
    have ag:¬(j:Int)<0:=by omega
    have g1:=Zg7 (ZgN (s.take i)) aa;have g3:=ZA3 (ZgN (s.take i)) aa;rw[h1] at ef;cases hd:ZgN (s.take i) n' with
    | true=>
     rw[hd] at hn g1;rw[hn] at hp;simp only[Bool.not_true,LU] at hp;simp +contextual -implicitDefEqProofs (maxSteps:=10^7) only[go_sem,seval,↓gZ,hx,ae,hw,ef,ag,aa,ab,g1,af,K4,Nat.mul_one,Uq,Zab,Ur];rw[← hp]
    | false=>
     rw[hd] at hn g1;rw[hn] at hp;simp only[Bool.not_false,Lf] at hp;by_cases h0:q2<0
     ·have ah:¬0≤q2:=by omega
      rw[Ke h0,Kau,Lf] at hp;simp +contextual -implicitDefEqProofs (maxSteps:=10^7) only[go_sem,seval,↓gZ,hx,ae,hw,ef,ag,aa,ab,g1,af,K4,Nat.mul_one,h2,ai,ah,g3,ad,Zjp,Uq,Zab,Ur,ZoT hx];refine ih (i+1) _ ⟨by omega,hp⟩ (by omega) ?_;simp +contextual -implicitDefEqProofs (maxSteps:=10^7) only[go_sem,seval,↓gZ,Uq,Zab,Ur]
     ·have ah:0≤q2:=by omega
      obtain⟨a',rfl⟩:∃ m:Nat,q2=(m:Int):=⟨q2.toNat,by omega⟩
      have ha:a' < 255:=by omega
      have aj : (a' : Int)<255:=by omega
      have g2:=Zg7 (ZgN (s.take i)) ha;rw[Kh h0,Lv] at hp;cases hd2:ZgN (s.take i) a' with
      | true=>
       rw[hd2] at g2;have:decide ((a' : Int)∈s.take i)=true:=hd2;rw[this,Lf] at hp;simp +contextual -implicitDefEqProofs (maxSteps:=10^7) only[go_sem,seval,↓gZ,hx,ae,hw,ef,ag,aa,ab,g1,af,K4,Nat.mul_one,h2,ai,ah,ha,aj,g2,g3,ad,Zjp,Uq,Zab,Ur,ZoT hx];refine ih (i+1) _ ⟨by omega,hp⟩ (by omega) ?_;simp +contextual -implicitDefEqProofs (maxSteps:=10^7) only[go_sem,seval,↓gZ,Uq,Zab,Ur]
      | false=>
       rw[hd2] at g2;have:decide ((a' : Int)∈s.take i)=false:=hd2;rw[this,LU] at hp;simp +contextual -implicitDefEqProofs (maxSteps:=10^7) only[go_sem,seval,↓gZ,hx,ae,hw,ef,ag,aa,ab,g1,af,K4,Nat.mul_one,h2,ai,ah,ha,aj,g2,Uq,Zab,Ur];rw[← hp]
  ·have:i=s.length:=by omega
   subst this;simp only[List.drop_length,okS] at hp;simp +contextual -implicitDefEqProofs (maxSteps:=10^7) only[go_sem,seval,↓gZ,Uq,Zab,Ur];rw[← hp]
end Go.Proofs.YtbpekaejmjlmfaaGreat
