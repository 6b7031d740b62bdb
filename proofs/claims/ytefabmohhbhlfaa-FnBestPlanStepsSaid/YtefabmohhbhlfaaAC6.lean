/- Own text. -/
import Derived.Test.YtefabmohhbhlfaaACode
import Derived.Test.YtefabmohhbhlfaaAbsParts
import Derived.Test.YtefabmohhbhlfaaAC1
import Derived.Test.YtefabmohhbhlfaaAbsOkD
namespace Go.Proofs.Ytefabmohhbhlfaa
open Go Go.Abs Go.Abs.E Go.Abs.L
open Nat (reduceMul reduceSub reduceLeDiff reduceEqDiff)
open Int (reduceLE reduceEq reduceToNat reduceNeg)
set_option linter.unusedSimpArgs false
set_option linter.unusedVariables false
set_option maxRecDepth 20000
set_option maxHeartbeats 4000000
def kn:BT→Int→Int→List (Int×Int)
 | .cut _ _ l r,n,a=>(n,a) :: (kn l (n+1) n++kn r (n+1+l.cnt) n)
 | .waste,_,_=>[]
 | .pane _ _,_,_=>[]
theorem VQ:∀ {b:BT} {n a:Int} {q:Int×Int},q∈kn b n a→n≤q.1∧q.1<n+b.cnt∧((q.1=n∧q.2=a)∨(n≤q.2∧q.2<q.1))
 | .waste,n,a,q,h=>by simp[kn] at h
 | .pane _ _,n,a,q,h=>by simp[kn] at h
 | .cut d c l r,n,a,q,h=>by
  simp only[kn,Ke,Kc] at h;simp only[BT.cnt];rcases h with rfl | h | h
  ·exact⟨Int.le_refl _,by simp only;omega,.inl ⟨rfl,rfl⟩⟩
  ·have:=VQ h;omega
  ·have:=VQ h;omega
theorem Wz:∀ (b:BT) (n a:Int),(kn b n a).length≤b.cnt
 | .waste,n,a=>by simp[kn]
 | .pane _ _,n,a=>by simp[kn]
 | .cut d c l r,n,a=>by
  have h1:=Wz l (n+1) n;have h2:=Wz r (n+1+l.cnt) n;simp only[kn,BT.cnt,Ki,Kk];omega
def VR (d:Bool) (a:Int) (b:Box):Box:=if d then ⟨b.X,b.Y,a,b.H⟩ else ⟨b.X,b.Y,b.W,a⟩
def WA (d:Bool) (a:Int) (b:Box):Box:=if d then ⟨b.X+a,b.Y,b.W-a,b.H⟩ else ⟨b.X,b.Y+a,b.W,b.H-a⟩
def ZfO:BT→Int→Box→Int→Option (BT×Box)
 | .cut d a l r,n,g,m=>if m=n then some (.cut d a l r,g) else if m≤n+l.cnt then ZfO l (n+1) (VR d a g) m else ZfO r (n+1+l.cnt) (WA d a g) m
 | .waste,n,g,m=>if m=n then some (.waste,g) else none
 | .pane i t,n,g,m=>if m=n then some (.pane i t,g) else none
theorem Zl0:∀ {b:BT} {n m:Int} {g c:Box} {q:BT},n≤m→ZfO b n g m=some (q,c)→(pt b g.X g.Y g.W g.H)[(m-n).toNat]?=some ⟨q.plan,c⟩∧m<n+b.cnt
 | .waste,n,m,g,c,q,hn,h=>by
  unfold ZfO at h;split at h
  ·rename_i e;cases h;subst e;simp[pt,BT.cnt];omega
  ·cases h
 | .pane i t,n,m,g,c,q,hn,h=>by
  unfold ZfO at h;split at h
  ·rename_i e;cases h;subst e;simp[pt,BT.cnt];omega
  ·cases h
 | .cut d a l r,n,m,g,c,q,hn,h=>by
  unfold ZfO at h;split at h
  ·rename_i e;cases h;subst e;simp only[Int.sub_self,pt,BT.cnt];exact⟨rfl,by omega⟩
  ·rename_i e;obtain⟨i,hi⟩:∃ i:Nat,(m-n).toNat=i+1:=⟨(m-n).toNat-1,by omega⟩
   split at h
   ·rename_i h2;obtain⟨k1,k2⟩:=Zl0 (by omega) h;have aa : (m-(n+1)).toNat=i:=by omega
    rw[aa] at k1;have hp:=JW l (VR d a g).X (VR d a g).Y (VR d a g).W (VR d a g).H;have k3:=(Kd.1 k1).1;refine⟨?_,by simp only[BT.cnt];omega⟩;rw[hi];cases d
    ·simp only[VR,Ka,Kf] at k1 k3;simp only[pt,K3,Ka,Kf];rw[Ku k3];exact k1
    ·simp only[VR,Kg] at k1 k3;simp only[pt,K3,Kg];rw[Ku k3];exact k1
   ·rename_i h2;obtain⟨k1,k2⟩:=Zl0 (by omega) h;refine⟨?_,by simp only[BT.cnt];omega⟩;rw[hi];cases d
    ·simp only[WA,Ka,Kf] at k1;have hp:=JW l g.X g.Y g.W a;simp only[pt,K3,Ka,Kf];rw[Kv (by omega),← k1];congr 1;omega
    ·simp only[WA,Kg] at k1;have hp:=JW l g.X g.Y a g.H;simp only[pt,K3,Kg];rw[Kv (by omega),← k1];congr 1;omega
def XE (dn:List Int):BT→Int→Box→List Box
 | .cut d a l r,n,g=>if n∈dn then XE dn l (n+1) (VR d a g)++XE dn r (n+1+l.cnt) (WA d a g) else [g]
 | .waste,_,g=>[g]
 | .pane _ _,_,g=>[g]
def av (dn:List Int):BT→Int→Int→Prop
 | .cut _ _ l r,n,m=>if n∈dn then av dn l (n+1) m∨av dn r (n+1+l.cnt) m else m=n
 | .waste,_,_=>False
 | .pane _ _,_,_=>False
def Cl (dn:List Int):BT→Int→Prop
 | .cut _ _ l r,n=>(n∉dn→∀ m∈dn,m<n∨n+(1+l.cnt+r.cnt)≤m)∧Cl dn l (n+1)∧Cl dn r (n+1+l.cnt)
 | .waste,_=>True
 | .pane _ _,_=>True
theorem Zl1:∀ (b:BT) (n:Int),Cl [] b n
 | .waste,_=>trivial
 | .pane _ _,_=>trivial
 | .cut _ _ l r,n=>⟨fun _ m hm=>(by cases hm),Zl1 l _,Zl1 r _⟩
theorem ZpU (b:BT) (n:Int) (g:Box):XE [] b n g=[g]:=by cases b<;>simp[XE]
theorem X6 {dn:List Int} {m x:Int}:x∈dn++[m]↔x∈dn∨x=m:=by simp
theorem UL {dn:List Int}:∀ {b:BT} {n m:Int},av dn b n m→n≤m∧m<n+b.cnt
 | .waste,_,_,h=>h.elim
 | .pane _ _,_,_,h=>h.elim
 | .cut _ _ l r,n,m,h=>by
  unfold av at h;simp only[BT.cnt];split at h
  ·rcases h with h | h
   ·have:=UL h;omega
   ·have:=UL h;omega
  ·omega
theorem ZaV {dn:List Int} {m:Int}:∀ {b:BT} {n:Int},Cl dn b n→(m<n∨n+b.cnt≤m)→Cl (dn++[m]) b n
 | .waste,_,_,_=>trivial
 | .pane _ _,_,_,_=>trivial
 | .cut _ _ l r,n,h,hm=>by
  simp only[BT.cnt] at hm;obtain⟨h1,h2,h3⟩:=h;refine⟨fun hn x hx=>?_,ZaV h2 (by omega),ZaV h3 (by omega)⟩;rw[X6] at hn hx;rcases hx with hx | rfl
  ·exact h1 (fun h=>hn (.inl h)) x hx
  ·omega
theorem Zl2 {dn:List Int} {m:Int}:∀ {b:BT} {n:Int},Cl dn b n→av dn b n m→Cl (dn++[m]) b n
 | .waste,_,_,_=>trivial
 | .pane _ _,_,_,_=>trivial
 | .cut _ _ l r,n,h,ha=>by
  have hr:=UL ha;obtain⟨h1,h2,h3⟩:=h;unfold av at ha;refine⟨fun hn=>?_,?_⟩
  ·rw[X6] at hn;split at ha
   ·rename_i hd;exact absurd (.inl hd) hn
   ·exact absurd (.inr ha.symm) hn
  ·split at ha
   ·rcases ha with ha | ha
    ·have:=UL ha;exact⟨Zl2 h2 ha,ZaV h3 (by omega)⟩
    ·have:=UL ha;exact⟨ZaV h2 (by omega),Zl2 h3 ha⟩
   ·exact⟨ZaV h2 (by omega),ZaV h3 (by omega)⟩
theorem Zc3 {dn:List Int} {m:Int}:∀ {b:BT} {n:Int} {g:Box},(m<n∨n+b.cnt≤m)→XE (dn++[m]) b n g=XE dn b n g
 | .waste,_,_,_=>rfl
 | .pane _ _,_,_,_=>rfl
 | .cut d a l r,n,g,hm=>by
  simp only[BT.cnt] at hm;have e:(n∈dn++[m])=(n∈dn):=by rw[X6];exact propext ⟨fun h=>h.resolve_right (by omega),.inl⟩
  simp only[XE,e];rw[Zc3 (b:=l) (by omega),Zc3 (b:=r) (by omega)]
theorem Zm7 {dn:List Int} {b:BT} {n:Int} {g:Box} (h:∀ m∈dn,m<n∨n+b.cnt≤m):XE dn b n g=[g]:=by
 cases b with
 | cut d a l r=>
  have:n∉dn:=fun hn=>by have:=h n hn;simp only[BT.cnt] at this;omega
  simp only[XE,this,Kf]
 | _=>rfl
def ZaW (g:Box):Prop:=1≤g.W∧1≤g.H
theorem ZpV {ps:List Pane} {d:Bool} {a:Int} {l r:BT} {g:Box} (hf:Qd ps (.cut d a l r) g.W g.H=true) (hg:ZaW g) :
  (Qd ps l (VR d a g).W (VR d a g).H=true∧Qd ps r (WA d a g).W (WA d a g).H=true)∧(ZaW (VR d a g)∧ZaW (WA d a g))∧(ZQ (VR d a g) g∧ZQ (WA d a g) g) ∧
  ∀ x y,ZQ x (VR d a g)→ZQ y (WA d a g)→¬XP x y:=by
 unfold ZaW at hg ⊢;cases d
 ·simp only[Qd,Kb,Ka,Kf,Kj] at hf;simp only[VR,WA,Ka,Kf,ZQ];refine⟨⟨hf.1.2,hf.2⟩,by omega,by omega,fun x y h1 h2=>?_⟩;unfold XP;omega
 ·simp only[Qd,Kb,Kg,Kj] at hf;simp only[VR,WA,Kg,ZQ];refine⟨⟨hf.1.2,hf.2⟩,by omega,by omega,fun x y h1 h2=>?_⟩;unfold XP;omega
theorem Jb {a b c:Box} (h1:ZQ a b) (h2:ZQ b c):ZQ a c:=by unfold ZQ at *;omega
theorem Zab (a:Box):ZQ a a:=by unfold ZQ;omega
theorem ZoE {ps:List Pane} {dn:List Int}:∀ {b:BT} {n:Int} {g:Box},Qd ps b g.W g.H=true→ZaW g→(∀ c∈XE dn b n g,ZQ c g∧ZaW c)∧(XE dn b n g).Pairwise fun x y=>¬XP x y
 | .waste,_,g,_,hg=>by simp only[XE];exact⟨fun c hc=>by rw[KA.1 hc];exact⟨Zab g,hg⟩,by simp⟩
 | .pane _ _,_,g,_,hg=>by simp only[XE];exact⟨fun c hc=>by rw[KA.1 hc];exact⟨Zab g,hg⟩,by simp⟩
 | .cut d a l r,n,g,hf,hg=>by
  obtain⟨⟨f1,f2⟩,⟨p1,p2⟩,⟨i1,i2⟩,ha⟩:=ZpV hf hg;obtain⟨a1,a2⟩:=ZoE (dn:=dn) (n:=n+1) f1 p1;obtain⟨b1,b2⟩:=ZoE (dn:=dn) (n:=n+1+l.cnt) f2 p2;simp only[XE];split
  ·refine⟨fun c hc=>?_,Lb.2 ⟨a2,b2,fun x hx y hy=>ha x y (a1 x hx).1 (b1 y hy).1⟩⟩;rcases Kc.1 hc with hc | hc
   ·exact⟨Jb (a1 c hc).1 i1,(a1 c hc).2⟩
   ·exact⟨Jb (b1 c hc).1 i2,(b1 c hc).2⟩
  ·exact⟨fun c hc=>by rw[KA.1 hc];exact⟨Zab g,hg⟩,by simp⟩
theorem ZqR {ps:List Pane} {dn:List Int} {b:BT} {n:Int} {g:Box} (hf:Qd ps b g.W g.H=true) (hg:ZaW g):(XE dn b n g).Nodup:=by
 obtain⟨h1,h2⟩:=ZoE (dn:=dn) (n:=n) hf hg;refine List.Pairwise.imp_of_mem (fun {x y} hx _ hm e=>hm ?_) h2;subst e;have:=(h1 x hx).2;unfold ZaW at this;unfold XP;omega
theorem Zih {ps:List Pane} {dn:List Int} {m:Int}:∀ {b:BT} {n:Int} {g:Box},Cl dn b n→av dn b n m→Qd ps b g.W g.H=true→ZaW g →
  ∃ d a l r c,ZfO b n g m=some (.cut d a l r,c)∧Qd ps (.cut d a l r) c.W c.H=true∧ZQ c g∧ZaW c∧c∈XE dn b n g∧(XE (dn++[m]) b n g).Perm ((XE dn b n g).erase c++[VR d a c,WA d a c])
 | .waste,_,_,_,h,_,_=>h.elim
 | .pane _ _,_,_,_,h,_,_=>h.elim
 | .cut d a l r,n,g,hC,ha,hf,hg=>by
  obtain⟨h1,h2,h3⟩:=hC;obtain⟨⟨f1,f2⟩,⟨p1,p2⟩,⟨i1,i2⟩,aa⟩:=ZpV hf hg;unfold av at ha;by_cases hn:n∈dn
  ·rw[Km hn] at ha;have e1:XE dn (.cut d a l r) n g=XE dn l (n+1) (VR d a g)++XE dn r (n+1+l.cnt) (WA d a g):=by simp only[XE,hn,Kg]
   have e2:XE (dn++[m]) (.cut d a l r) n g=XE (dn++[m]) l (n+1) (VR d a g)++XE (dn++[m]) r (n+1+l.cnt) (WA d a g):=by
    have:n∈dn++[m]:=X6.2 (.inl hn);simp only[XE,this,Kg]
   rw[e1,e2];rcases ha with ha | ha
   ·have hr:=UL ha;obtain⟨d',a',l',r',c,k1,k2,k3,k4,k5,k6⟩:=Zih h2 ha f1 p1;refine⟨d',a',l',r',c,?_,k2,Jb k3 i1,k4,List.mem_append_left _ k5,?_⟩
    ·unfold ZfO;rw[Kl (by omega),Km (by omega)];exact k1
    ·rw[Zc3 (b:=r) (by omega),List.erase_append_left _ k5];refine(k6.append_right _).trans ?_;rw[KS,KS];exact List.Perm.append_left _ List.perm_append_comm
   ·have hr:=UL ha;obtain⟨d',a',l',r',c,k1,k2,k3,k4,k5,k6⟩:=Zih h3 ha f2 p2;refine⟨d',a',l',r',c,?_,k2,Jb k3 i2,k4,List.mem_append_right _ k5,?_⟩
    ·unfold ZfO;rw[Kl (by omega),Kl (by omega)];exact k1
    ·rw[Zc3 (b:=l) (by omega)];have q1:((XE dn l (n+1) (VR d a g)++XE dn r (n+1+l.cnt) (WA d a g)).erase c).Perm (XE dn l (n+1) (VR d a g)++(XE dn r (n+1+l.cnt) (WA d a g)).erase c):=by
      refine(List.perm_append_comm.erase c).trans ?_;rw[List.erase_append_left _ k5];exact List.perm_append_comm
     refine(List.Perm.append_left _ k6).trans ?_;rw[← KS];exact(q1.append_right _).symm
  ·rw[Kl hn] at ha;subst ha;have hz:=h1 hn;refine⟨d,a,l,r,g,by unfold ZfO;rw[Km rfl],hf,Zab g,hg,?_,?_⟩
   ·simp only[XE,hn,Kf];simp
   ·have:m∈dn++[m]:=X6.2 (.inr rfl);have e1:XE dn (.cut d a l r) m g=[g]:=by simp only[XE,hn,Kf]
    have e2:XE (dn++[m]) (.cut d a l r) m g=XE (dn++[m]) l (m+1) (VR d a g)++XE (dn++[m]) r (m+1+l.cnt) (WA d a g):=by simp only[XE,this,Kg]
    rw[e1,e2,Zm7 (b:=l),Zm7 (b:=r)]
    ·simp
    ·intro x hx;rcases X6.1 hx with hx | rfl
     ·have:=hz x hx;omega
     ·omega
    ·intro x hx;rcases X6.1 hx with hx | rfl
     ·have:=hz x hx;omega
     ·omega
theorem Zsh {dn:List Int} {m ab:Int}:∀ {b:BT} {n a:Int},(m,ab)∈kn b n a→Cl dn b n→m∉dn→(m=n∨ab∈dn)→av dn b n m
 | .waste,n,a,h,_,_,_=>by simp[kn] at h
 | .pane _ _,n,a,h,_,_,_=>by simp[kn] at h
 | .cut d c l r,n,a,h,hC,hm,ho=>by
  have hr:=VQ h;simp only[BT.cnt] at hr;obtain⟨h1,h2,h3⟩:=hC;simp only[kn,Ke,Kc,Prod.mk.injEq] at h;unfold av;by_cases hn:n∈dn
  ·rw[Km hn];rcases h with ⟨rfl,rfl⟩ | h | h
   ·exact absurd hn hm
   ·have hk:=VQ h;refine .inl (Zsh h h2 hm ?_);rcases ho with rfl | ho
    ·simp only at hk;omega
    ·exact .inr ho
   ·have hk:=VQ h;refine .inr (Zsh h h3 hm ?_);rcases ho with rfl | ho
    ·simp only at hk;omega
    ·exact .inr ho
  ·rw[Kl hn];rcases ho with rfl | ho
   ·rfl
   ·have:=h1 hn ab ho;omega
def okN (K:List (Int×Int)) (dn:List Int) (m:Int):Bool:=match K.find? fun q=>q.1==m with
 | some q=>!decide (m∈dn)&&(decide (q.2<0) || decide (q.2∈dn))
 | none=>false
def okS (K:List (Int×Int)):List Int→List Int→Bool
 | _,[]=>true
 | dn,m :: r=>okN K dn m&&okS K (dn++[m]) r
theorem okN_av {b:BT} {dn:List Int} {m:Int} (h:okN (kn b 0 (-1)) dn m=true) (hC:Cl dn b 0):av dn b 0 m:=by
 unfold okN at h;split at h
 ·rename_i q hq;obtain⟨x,y⟩:=q;have h1:=List.find?_some hq;have h2:=List.mem_of_find?_eq_some hq;simp only[beq_iff_eq] at h1;subst h1;simp only[Kb,KH,KL,K5,Kj] at h;refine Zsh h2 hC h.1 ?_;rcases h.2 with h | h
  ·left;have:=VQ h2;simp only at this;omega
  ·exact .inr h
 ·cases h
theorem ZpW {ps:List Pane} {b:BT} {g:Box} {dn:List Int} {m:Int} {t:List Box} (hf:Qd ps b g.W g.H=true) (hg:ZaW g) (hC:Cl dn b 0) (ht:t.Perm (XE dn b 0 g)) (ho:okN (kn b 0 (-1)) dn m=true) :
  ∃ d a l r c,(0≤m∧m<b.cnt)∧ZfO b 0 g m=some (.cut d a l r,c)∧Qd ps (.cut d a l r) c.W c.H=true∧ZQ c g∧ZaW c∧c∈t∧t.Nodup∧Cl (dn++[m]) b 0∧(t.erase c++[VR d a c,WA d a c]).Perm (XE (dn++[m]) b 0 g):=by
 have ha:=okN_av ho hC;have hr:=UL ha;obtain⟨d,a,l,r,c,h1,h2,h3,h4,h5,h6⟩:=Zih hC ha hf hg;exact⟨d,a,l,r,c,by omega,h1,h2,h3,h4,ht.mem_iff.2 h5,ht.nodup_iff.2 (ZqR hf hg),Zl2 hC ha,((ht.erase c).append_right _).trans h6.symm⟩
def goS (b:BT) (g:Box):List Box→List Int→List Box
 | t,[]=>t
 | t,m :: r=>match ZfO b 0 g m with
  | some (.cut d a _ _,c)=>goS b g (t.erase c++[VR d a c,WA d a c]) r
  | _=>goS b g t r
theorem Zm8 {b:BT} {g c:Box} {t:List Box} {m a:Int} {r:List Int} {d:Bool} {l r' : BT} (h:ZfO b 0 g m=some (.cut d a l r',c)):goS b g t (m :: r)=goS b g (t.erase c++[VR d a c,WA d a c]) r:=by rw[goS,h]
def ZeI (k:ZN) (p:Zh) (s:List Int):Option (List Box):=match Xa p with
 | some b=>if Yy k p&&okS (kn b 0 (-1)) [] s then some (goS b ⟨0,0,k.W,k.H⟩ [⟨0,0,k.W,k.H⟩] s) else none
 | none=>none
theorem ZpX {ps:List Pane} {b:BT} {g:Box} (hf:Qd ps b g.W g.H=true) (hg:ZaW g):∀ {s dn:List Int} {t:List Box},Cl dn b 0→t.Perm (XE dn b 0 g)→okS (kn b 0 (-1)) dn s=true→(goS b g t s).Perm (XE (dn++s) b 0 g)∧Cl (dn++s) b 0
 | [],dn,t,hC,ht,ho=>by simpa [goS] using ⟨ht,hC⟩
 | m :: r,dn,t,hC,ht,ho=>by
  simp only[okS,Kb] at ho;obtain⟨d,a,l,r',c,_,h1,_,_,_,_,_,h7,h8⟩:=ZpW hf hg hC ht ho.1;rw[Zm8 h1];have:=ZpX hf hg h7 h8 ho.2
  rwa [KS,List.singleton_append] at this
def ZaX (q:Int×Int):D:=.agg [J q.1,J q.2]
@[go_sem] theorem encK_mk (a b:Int):ZaX (a,b)=.agg [J a,J b]:=rfl
@[go_sem] theorem uni_K (l:List (Int×Int)):uni 2 (l.map ZaX)=True:=eq_true (UE l fun _=>rfl)
@[go_sem] theorem flat_K (l:List (Int×Int)):QD (l.map ZaX)=True:=eq_true (UQ l fun _=>rfl)
def kaV (b:BT) (xs:List D) (n a:Int):AV×List Zg:=match b with
 | .cut d c l r=>(.tup [.own 1,(.d (J (n+((BT.cut d c l r).cnt:Nat))))],[.gone,.row 2 (xs++(kn (.cut d c l r) n a).map ZaX) true false])
 | _=>(.tup [.own 0,(.d (J (n+1)))],[.row 2 xs true false])
theorem Zc4 (b:BT):(∃ d c l r,b=.cut d c l r)∨(b.cnt=1∧(∀ n a,kn b n a=[])∧∀ xs n a,kaV b xs n a=(.tup [.own 0,(.d (J (n+1)))],[.row 2 xs true false])):=by
 cases b with
 | cut d' c' l' r'=>exact .inl ⟨_,_,_,_,rfl⟩
 | _=>exact .inr ⟨rfl,fun _ _=>rfl,fun _ _ _=>rfl⟩
theorem Zc5 {b:BT} {xs:List D} {n a:Int} (h:∃ d c l r,b=.cut d c l r):kaV b xs n a=(.tup [.own 1,(.d (J (n+(b.cnt:Nat))))],[.gone,.row 2 (xs++(kn b n a).map ZaX) true false]):=by
 obtain⟨d,c,l,r,rfl⟩:=h;rfl
theorem WB:∀ (b:BT) (xs:List D) (n a:Int),0≤n→n+b.cnt≤1000→xs.length+b.cnt≤1000 →
  Zi Xs Ms Z3 [.own 0,.d b.plan.enc,(.d (J n)),(.d (J a))] [.row 2 xs true false]=some (kaV b xs n a)
 | .waste,xs,n,a,h0,h1,h2=>by
  have w1:=wi (n+1) (by omega) (by simp only[BT.cnt] at h1;omega);simp only[BT.plan,Zh.enc_mk,kaV];refine cE ?_;simp +contextual -implicitDefEqProofs (maxSteps:=10^7) only[go_sem,seval,↓gZ,Qc,Zj,w1]
 | .pane i t,xs,n,a,h0,h1,h2=>by
  have w1:=wi (n+1) (by omega) (by simp only[BT.cnt] at h1;omega);simp only[BT.plan,Zh.enc_mk,kaV];refine cE ?_;simp +contextual -implicitDefEqProofs (maxSteps:=10^7) only[go_sem,seval,↓gZ,Qc,Zj,w1]
 | .cut d c l r,xs,n,a,h0,h1,h2=>by
  simp only[BT.cnt] at h1 h2;have w1:=wi (n+1) (by omega) (by omega);have hr:(xs.length+1)*16≤140737488355328∧xs.length≤140737488355327:=by omega
  have kl:=Wz l (n+1) n;have e1:=WB l (xs++[.agg [J n,J a]]) (n+1) n (by omega) (by omega) (by simp only[Kk,Ki,KD];omega);have e2:=WB r (xs++[.agg [J n,J a]]++(kn l (n+1) n).map ZaX) (n+1+l.cnt) n (by omega) (by omega) (by simp only[Kk,Ki,KD,Kt];omega);have e3:n+((1+l.cnt+r.cnt:Nat):Int)=n+1+l.cnt+r.cnt:=by push_cast;omega
  have hd:(Yx d=2∨Yx d=3)=True:=eq_true (by cases d<;>simp[Yx]);simp only[BT.plan,Zh.enc_mk,kaV,kn,BT.cnt,e3];rcases Zc4 l with hl | ⟨af,ag,ah⟩
  ·rw[Zc5 hl] at e1;rcases Zc4 r with aa | ⟨ab,ad,ae⟩
   ·rw[Zc5 aa] at e2;refine cE ?_;simp +contextual -implicitDefEqProofs (maxSteps:=10^7) only[go_sem,seval,↓gZ,Qc,Zj,hd,hr,w1,e1,e2];try (simp[ZaX];done)
   ·rw[ae] at e2;rw[ad,ab];refine cE ?_;simp +contextual -implicitDefEqProofs (maxSteps:=10^7) only[go_sem,seval,↓gZ,Qc,Zj,hd,hr,w1,e1,e2];try (simp[ZaX];done)
  ·rw[ah] at e1;rw[ag,af,KB,K6,show ((1:Nat):Int)=1 from rfl] at e2;rw[ag,af,show ((1:Nat):Int)=1 from rfl];rcases Zc4 r with aa | ⟨ab,ad,ae⟩
   ·rw[Zc5 aa] at e2;refine cE ?_;simp +contextual -implicitDefEqProofs (maxSteps:=10^7) only[go_sem,seval,↓gZ,Qc,Zj,hd,hr,w1,e1,e2];try (simp[ZaX];done)
   ·rw[ae] at e2;rw[ad,ab];refine cE ?_;simp +contextual -implicitDefEqProofs (maxSteps:=10^7) only[go_sem,seval,↓gZ,Qc,Zj,hd,hr,w1,e1,e2];try (simp[ZaX];done)
theorem Zii:∀ (b:BT),b.cnt≤255→Zi Xs Ms Z3 [.nil,.d b.plan.enc,(.d (J 0)),(.d (J (-1)))] []=some (.tup [.own 0,(.d (J ((b.cnt:Nat))))],[.row 2 ((kn b 0 (-1)).map ZaX) true false])
 | .waste,h2=>by
  simp only[BT.plan,Zh.enc_mk,kn,BT.cnt];refine cE ?_;simp +contextual -implicitDefEqProofs (maxSteps:=10^7) only[go_sem,seval,↓gZ,Qc,Zj]
 | .pane i t,h2=>by
  simp only[BT.plan,Zh.enc_mk,kn,BT.cnt];refine cE ?_;simp +contextual -implicitDefEqProofs (maxSteps:=10^7) only[go_sem,seval,↓gZ,Qc,Zj]
 | .cut d c l r,h2=>by
  simp only[BT.cnt] at h2;have hr:1*16≤Zy∧1≤Zy:=by unfold Zy;omega
  have kl:=Wz l 1 0;have e1:=WB l [.agg [J 0,J (-1)]] 1 0 (by omega) (by omega) (by simp only[Ki,KD];omega);have e2:=WB r (.agg [J 0,J (-1)] :: (kn l 1 0).map ZaX) (1+l.cnt) 0 (by omega) (by omega) (by simp only[Ki,Kt] at kl ⊢;omega);have e3:((1+l.cnt+r.cnt:Nat):Int)=1+l.cnt+r.cnt:=by push_cast;omega
  have hd:(Yx d=2∨Yx d=3)=True:=eq_true (by cases d<;>simp[Yx]);simp only[BT.plan,Zh.enc_mk,kn,BT.cnt,e3,Int.zero_add];rcases Zc4 l with hl | ⟨af,ag,ah⟩
  ·rw[Zc5 hl] at e1;rcases Zc4 r with aa | ⟨ab,ad,ae⟩
   ·rw[Zc5 aa] at e2;refine cE ?_;simp +contextual -implicitDefEqProofs (maxSteps:=10^7) only[go_sem,seval,↓gZ,Qc,Zj,hd,hr,e1,e2];try (simp[ZaX];done)
   ·rw[ae] at e2;rw[ad,ab];refine cE ?_;simp +contextual -implicitDefEqProofs (maxSteps:=10^7) only[go_sem,seval,↓gZ,Qc,Zj,hd,hr,e1,e2];try (simp[ZaX];done)
  ·rw[ah,show (1:Int)+1=2 from rfl] at e1;rw[ag,af,KB,show ((1:Nat):Int)=1 from rfl,show (1:Int)+1=2 from rfl] at e2;rw[ag,af,show ((1:Nat):Int)=1 from rfl,show (1:Int)+1=2 from rfl];rcases Zc4 r with aa | ⟨ab,ad,ae⟩
   ·rw[Zc5 aa] at e2;refine cE ?_;simp +contextual -implicitDefEqProofs (maxSteps:=10^7) only[go_sem,seval,↓gZ,Qc,Zj,hd,hr,e1,e2];try (simp[ZaX];done)
   ·rw[ae] at e2;rw[ad,ab];refine cE ?_;simp +contextual -implicitDefEqProofs (maxSteps:=10^7) only[go_sem,seval,↓gZ,Qc,Zj,hd,hr,e1,e2];try (simp[ZaX];done)
def Zd2 (p:Zh):List (Int×Int):=match Xa p with
 | some b=>if b.cnt≤255 then kn b 0 (-1) else []
 | none=>[]
def wfP (p:Zh):Bool:=decide (0≤Zl 255 (Xa p))
theorem Jc (p:Zh):Zi Xs Ms Yh [.d p.enc] []=some (.tup [.own 0,(.d (.bool (wfP p)))],[.row 2 ((Zd2 p).map ZaX) true false]):=by
 have hs:=XR p;unfold wfP Zd2;cases hb:Xa p with
 | none=>
  rw[hb] at hs;obtain⟨o,a,q,t,ks⟩:=p;rw[Zh.enc_mk] at hs ⊢;refine cE ?_;simp +contextual -implicitDefEqProofs (maxSteps:=10^7) only[go_sem,seval,↓gZ,UO,hs,Zl]
 | some b=>
  have hp:=Za8 hb;rw[hb] at hs;have hc:=b.cnt_pos;have hz:=Z1 255 b;by_cases h2:b.cnt≤255
  ·have h3:Zl 255 (some b)=b.cnt:=by omega
   have h4:¬(b.cnt:Int)<0:=by omega
   have ek:=Zii b h2;rw[← hp] at ek;rw[h3] at hs ⊢;simp only[h2,Kg];obtain⟨o,a,q,t,ks⟩:=p;rw[Zh.enc_mk] at hs ek ⊢;refine cE ?_;simp +contextual -implicitDefEqProofs (maxSteps:=10^7) only[go_sem,seval,↓gZ,UO,hs,h4,ek]
  ·have h3:Zl 255 (some b)=-1:=by omega
   rw[h3] at hs ⊢;simp only[h2,Kf];obtain⟨o,a,q,t,ks⟩:=p;rw[Zh.enc_mk] at hs ⊢;refine cE ?_;simp +contextual -implicitDefEqProofs (maxSteps:=10^7) only[go_sem,seval,↓gZ,UO,hs]
def fKn:Nat→List (Int×Int)→Int→Int
 | _,[],_=>-1
 | k,x :: l,n=>if x.1=n then (k:Int) else fKn (k+1) l n
theorem Zsi {l:List (Int×Int)} {k:Nat} {x:Int×Int} {n:Int} (hx:l[k]?=some x):fKn k (l.drop k) n=if x.1=n then (k:Int) else fKn (k+1) (l.drop (k+1)) n:=by
 obtain⟨h1,h2⟩:=Kd.1 hx;rw[Lm h1,h2,fKn]
theorem Zm9:∀ (l:List (Int×Int)) (k:Nat) (n:Int),(fKn k l n<0∧(l.find? fun q=>q.1==n)=none)∨∃ i q,fKn k l n=((k+i:Nat):Int)∧l[i]?=some q∧q.1=n∧(l.find? fun q=>q.1==n)=some q
 | [],k,n=>.inl ⟨by simp[fKn],rfl⟩
 | x :: l,k,n=>by
  by_cases h:x.1=n
  ·exact .inr ⟨0,x,by simp[fKn,h],rfl,h,by simp[List.find?,h]⟩
  ·rcases Zm9 l (k+1) n with ⟨h1,h2⟩ | ⟨i,q,h1,h2,h3,h4⟩
   ·exact .inl ⟨by simp only[fKn,h,Kf];exact h1,by rw[List.find?_cons_of_neg (by simpa using h)];exact h2⟩
   ·exact .inr ⟨i+1,q,by simp only[fKn,h,Kf];rw[h1];congr 1;omega,by simpa using h2,h3,by rw[List.find?_cons_of_neg (by simpa using h)];exact h4⟩
theorem Zhn (a b n:Int):Zi Xs Ms Yb [.d (.agg [J a,J b]),.ptr 0 0] [.box [(.d (J n))]]=some ((.d (.bool (decide (a=n)))),[.box [(.d (J n))]]):=by
 refine cE ?_;simp +contextual -implicitDefEqProofs (maxSteps:=10^7) only[go_sem,seval,↓gZ,JE]
theorem Zna (l:List (Int×Int)) (n:Int) (hl:l.length<4611686018427387904):Zi Xs Ms QT [.d (.sl (l.map ZaX)),.clo Yb [.ptr 0 0]] [.box [(.d (J n))]]=some ((.d (J (fKn 0 l n))),[.box [(.d (J n))]]):=by
 refine cE ?_;simp +contextual -implicitDefEqProofs (maxSteps:=10^7) only[go_sem,seval,↓gZ,YO];refine LO (α:=Nat) (fun k=>[(8,.d (J (k:Int)))]) (fun _=>[]) (fun k=>k≤l.length∧fKn k (l.drop k) n=fKn 0 l n) (fun k=>l.length-k) 0 ⟨by omega,rfl⟩ ?_;intro k ⟨hk,hp⟩ ih;by_cases aa:k<l.length
 ·obtain⟨x,hx⟩:=ZY aa;rw[Zsi hx] at hp;have hw:=Zn (k:=k) (by omega);have e1:=Zhn x.1 x.2 n;obtain⟨a,b⟩:=x;simp only at hp e1;by_cases h:a=n
  ·rw[Km h] at hp;rw[Kw h] at e1;simp +contextual -implicitDefEqProofs (maxSteps:=10^7) only[go_sem,seval,↓gZ,hx,aa,hw,e1];rw[← hp]
  ·rw[Kl h] at hp;rw[Kq h] at e1;simp +contextual -implicitDefEqProofs (maxSteps:=10^7) only[go_sem,seval,↓gZ,hx,aa,hw,e1];refine ih (k+1) _ ⟨by omega,hp⟩ (by omega) ?_;simp +contextual -implicitDefEqProofs (maxSteps:=10^7) only[go_sem,seval,↓gZ]
 ·have:k=l.length:=by omega
  subst this;simp +contextual -implicitDefEqProofs (maxSteps:=10^7) only[go_sem,seval,↓gZ];rw[← hp];simp[fKn]
theorem Zkh (l:List (Int×Int)) (n:Int) (hl:l.length<4611686018427387904):Zi Xs Ms WF [.d (.sl (l.map ZaX)),(.d (J n))] []=some ((.d (J (fKn 0 l n))),[]):=by
 have e1:=Zna l n hl;refine cE ?_;simp +contextual -implicitDefEqProofs (maxSteps:=10^7) only[go_sem,seval,↓gZ,Zbq,e1]
def Jx (N:Nat) (P:Nat→Bool):List AV:=(List.range N).map fun x=>.d (.bool (P x))
theorem Zij (N:Nat) (P:Nat→Bool):(Jx N P).length=N:=by simp[Jx]
theorem Zch {N:Nat} (P:Nat→Bool) {x:Nat} (h:x<N):(Jx N P)[x]?=some (.d (.bool (P x))):=by
 simp[Jx,h]
theorem splice_one {α:Type} {cs:List α} {x:Nat} {v:α} (h:x<cs.length):Zm cs x [v]=cs.set x v:=by
 rw[List.set_eq_take_append_cons_drop,Km h];simp[Zm]
theorem Zsj {N:Nat} (P:Nat→Bool) {x:Nat} (h:x<N):Zm (Jx N P) x [.d (.bool true)]=Jx N (fun z=>P z || z==x):=by
 rw[splice_one (by rw[Zij];exact h)];refine K7 fun i=>?_;rw[LP,Zij];by_cases h1:i<N
 ·by_cases h2:x=i
  ·subst h2;rw[Km rfl,Km h,Zch _ h,beq_self_eq_true,Bool.or_true]
  ·rw[Kl h2,Zch _ h1,Zch _ h1];have h3:(i==x)=false:=beq_false_of_ne fun e=>h2 e.symm;rw[h3,Bool.or_false]
 ·rw[Kl (by omega)];simp[Jx,h1]
theorem ZqS (N:Nat):List.replicate N (AV.d (.bool false))=Jx N (fun _=>false):=by
 unfold Jx;rw[List.map_const',List.length_range]
theorem Znb (N:Nat) (P:Nat→Bool):ZaG (Jx N P)=false:=by
 have h:∀ l:List Nat,ZaG (l.map fun x=>AV.d (.bool (P x)))=false:=fun l=>by
  induction l with
  | nil=>rfl
  | cons a l ih=>exact ih
 exact h _
theorem Zd3 (N:Nat) (P:Nat→Bool):QP (Jx N P)=true:=by
 have h:∀ l:List Nat,QP (l.map fun x=>AV.d (.bool (P x)))=true:=fun l=>by
  induction l with
  | nil=>rfl
  | cons a l ih=>exact ih
 exact h _
theorem Zsk (g:Nat) (N:Nat) (P:Nat→Bool):(Jx N P).map (ZcE g)=Jx N P:=by
 unfold Jx;rw[Kac];exact Kx fun _ _=>rfl
theorem Vu (N:Nat) (P:Nat→Bool):(Jx N P).flatMap Zp=[]:=by
 unfold Jx;rw[List.flatMap_map];simp[Zp,Ze]
theorem WC (g:Nat→Nat) (N:Nat) (P:Nat→Bool):(Jx N P).map (J7 g)=Jx N P:=by
 unfold Jx;rw[Kac];exact Kx fun _ _=>rfl
theorem Vv (g:List Nat) (N:Nat) (P:Nat→Bool):(Jx N P).map (ZH g)=Jx N P:=by
 unfold Jx;rw[Kac];exact Kx fun _ _=>rfl
def Zb6 (s:List Int) (x:Nat):Bool:=decide ((x:Int)∈s)
theorem Zik {s:List Int} {i n:Nat} (h:s[i]?=some (n:Int)):(fun z=>Zb6 (s.take i) z || z==n)=Zb6 (s.take (i+1)):=by
 funext z
 unfold Zb6;rw[KC,h,Bool.eq_iff_iff];simp only[K5,Kj,beq_iff_eq,Kc,LC,KA];exact or_congr Iff.rfl Int.ofNat_inj.symm
theorem Znc {K:List (Int×Int)} {s:List Int} {i:Nat} {n:Int} (h:s[i]?=some n):okS K (s.take i) (s.drop i)=(okN K (s.take i) n&&okS K (s.take (i+1)) (s.drop (i+1))):=by
 obtain⟨h1,h2⟩:=Kd.1 h;rw[Lm h1,h2,okS,KC,h];rfl
theorem ZaY (K:List (Int×Int)) (s:List Int) (hK:∀ q∈K,0≤q.1∧q.1<255∧q.2<255) (hl:K.length≤255) (hs:s.length≤1048576):Zi Xs Ms XI [.d (.sl (K.map ZaX)),.d (.sl (s.map Qp))] []=some ((.d (.bool (okS K [] s))),[]):=by
 refine cE ?_;simp +contextual -implicitDefEqProofs (maxSteps:=10^7) only[go_sem,seval,↓gZ,UY,ZqS,Zsk,Zd3,Znb];refine Qw Xs Ms (st0:=?st0) (α:=Nat) (fun i=>[(12,.d (J (i:Int)))]) (fun i=>[(0,.box (Jx 255 (Zb6 (s.take i))))]) (fun i=>i≤s.length∧okS K (s.take i) (s.drop i)=okS K [] s) (fun i=>s.length-i) 0 ?hc ⟨by omega,by simp⟩ ?h0 ?step
 case hc=>simp +contextual -implicitDefEqProofs (maxSteps:=10^7) only[go_sem,seval,↓gZ,Vu,WC,Vv]<;>exact rfl
 case h0=>rfl
 case step=>
  intro i ⟨hi,hp⟩ ih;by_cases ae:i<s.length
  ·obtain⟨n,hx⟩:=ZY ae;have hw:=Zn (k:=i) (by omega);rw[Znc hx] at hp;have ef:=Zkh K n (by omega);have af:=Zij 255 (Zb6 (s.take i));rcases Zm9 K 0 n with ⟨h1,h2⟩ | ⟨j,q,h1,h2,h3,h4⟩
   ·have hn:okN K (s.take i) n=false:=by unfold okN;rw[h2]
    rw[hn,L6] at hp;simp +contextual -implicitDefEqProofs (maxSteps:=10^7) only[go_sem,seval,↓gZ,hx,ae,hw,ef,h1,Vu,WC,Vv];rw[← hp]
   ·have hq:=hK q (Kp h2);obtain⟨n',rfl⟩:∃ m:Nat,n=(m:Int):=⟨n.toNat,by omega⟩
    rw[Kz] at h1;have ai:=(Kd.1 h2).1;have hn:okN K (s.take i) n'=(!Zb6 (s.take i) n'&&(decide (q.2<0) || decide (q.2∈s.take i))):=by unfold okN Zb6;rw[h4]
    obtain⟨q1,q2⟩:=q;simp only at hq h3 hn;have aa:n' < 255:=by omega
    have ab : (n' : Int)<255:=by omega
    have ad:n'≤254:=by omega
    have ag:¬(j:Int)<0:=by omega
    have g1:=Zch (Zb6 (s.take i)) aa;have g3:=Zsj (Zb6 (s.take i)) aa;rw[h1] at ef;cases hd:Zb6 (s.take i) n' with
    | true=>
     rw[hd] at hn g1;rw[hn] at hp;simp only[Bool.not_true,L6] at hp;simp +contextual -implicitDefEqProofs (maxSteps:=10^7) only[go_sem,seval,↓gZ,hx,ae,hw,ef,ag,aa,ab,g1,af,Kz,K4,Vu,WC,Vv];rw[← hp]
    | false=>
     rw[hd] at hn g1;rw[hn] at hp;simp only[Bool.not_false,La] at hp;by_cases h0:q2<0
     ·have ah:¬0≤q2:=by omega
      rw[Kw h0,Bool.true_or,La] at hp;simp +contextual -implicitDefEqProofs (maxSteps:=10^7) only[go_sem,seval,↓gZ,hx,ae,hw,ef,ag,aa,ab,g1,af,Kz,K4,h2,ai,ah,g3,ad,Zd3,Vu,WC,Vv,Zik hx];refine ih (i+1) _ ⟨by omega,hp⟩ (by omega) ?_;simp +contextual -implicitDefEqProofs (maxSteps:=10^7) only[go_sem,seval,↓gZ,Vu,WC,Vv]
     ·have ah:0≤q2:=by omega
      obtain⟨a',rfl⟩:∃ m:Nat,q2=(m:Int):=⟨q2.toNat,by omega⟩
      have ha:a' < 255:=by omega
      have aj : (a' : Int)<255:=by omega
      have g2:=Zch (Zb6 (s.take i)) ha;rw[Kq h0,Bool.false_or] at hp;cases hd2:Zb6 (s.take i) a' with
      | true=>
       rw[hd2] at g2;have:decide ((a' : Int)∈s.take i)=true:=hd2;rw[this,La] at hp;simp +contextual -implicitDefEqProofs (maxSteps:=10^7) only[go_sem,seval,↓gZ,hx,ae,hw,ef,ag,aa,ab,g1,af,Kz,K4,h2,ai,ah,ha,aj,g2,g3,ad,Zd3,Vu,WC,Vv,Zik hx];refine ih (i+1) _ ⟨by omega,hp⟩ (by omega) ?_;simp +contextual -implicitDefEqProofs (maxSteps:=10^7) only[go_sem,seval,↓gZ,Vu,WC,Vv]
      | false=>
       rw[hd2] at g2;have:decide ((a' : Int)∈s.take i)=false:=hd2;rw[this,L6] at hp;simp +contextual -implicitDefEqProofs (maxSteps:=10^7) only[go_sem,seval,↓gZ,hx,ae,hw,ef,ag,aa,ab,g1,af,Kz,K4,h2,ai,ah,ha,aj,g2,Vu,WC,Vv];rw[← hp]
  ·have:i=s.length:=by omega
   subst this;simp only[List.drop_length,okS] at hp;simp +contextual -implicitDefEqProofs (maxSteps:=10^7) only[go_sem,seval,↓gZ,Vu,WC,Vv];rw[← hp]
end Go.Proofs.Ytefabmohhbhlfaa
