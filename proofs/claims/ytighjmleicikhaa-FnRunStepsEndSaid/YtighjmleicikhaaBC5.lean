/- Own text. -/
import Derived.Test.YtighjmleicikhaaBCode
import Derived.Test.YtighjmleicikhaaAbsParts
import Derived.Test.YtighjmleicikhaaBC1
import Derived.Test.YtighjmleicikhaaAbsOkD
namespace Go.Proofs.Ytighjmleicikhaa
open Go Go.Abs Go.Abs.E Go.Abs.L
open Nat (reduceMul reduceSub reduceLeDiff reduceEqDiff)
open Int (reduceLE reduceEq reduceToNat reduceNeg)
set_option linter.unusedSimpArgs false
set_option linter.unusedVariables false
set_option maxRecDepth 20000
set_option maxHeartbeats 4000000
def kn:BT→Int→Int→List (Int×Int)
 | .cut _ _ l r,n,a=>(n,a) :: (kn l (n+1) n++kn r (n+1+l.cnt) n)
 | .waste,_,_=>[]
 | .pane _ _,_,_=>[]
theorem Jc:∀ {b:BT} {n a:Int} {q:Int×Int},q∈kn b n a→n≤q.1∧q.1<n+b.cnt∧((q.1=n∧q.2=a)∨(n≤q.2∧q.2<q.1))
 | .waste,n,a,q,h=>by simp[kn] at h
 | .pane _ _,n,a,q,h=>by simp[kn] at h
 | .cut d c l r,n,a,q,h=>by
  simp only[kn,Ke,Kd] at h;simp only[BT.cnt];rcases h with rfl | h | h
  ·exact⟨Int.le_refl _,by simp only;omega,.inl ⟨rfl,rfl⟩⟩
  ·have:=Jc h;omega
  ·have:=Jc h;omega
theorem XV:∀ (b:BT) (n a:Int),(kn b n a).length≤b.cnt
 | .waste,n,a=>by simp[kn]
 | .pane _ _,n,a=>by simp[kn]
 | .cut d c l r,n,a=>by
  have h1:=XV l (n+1) n;have h2:=XV r (n+1+l.cnt) n;simp only[kn,BT.cnt,Ki,Kg];omega
def XL (d:Bool) (a:Int) (b:Box):Box:=if d then ⟨b.X,b.Y,a,b.H⟩ else ⟨b.X,b.Y,b.W,a⟩
def X5 (d:Bool) (a:Int) (b:Box):Box:=if d then ⟨b.X+a,b.Y,b.W-a,b.H⟩ else ⟨b.X,b.Y+a,b.W,b.H-a⟩
def WH:BT→Int→Box→Int→Option (BT×Box)
 | .cut d a l r,n,g,m=>if m=n then some (.cut d a l r,g) else if m≤n+l.cnt then WH l (n+1) (XL d a g) m else WH r (n+1+l.cnt) (X5 d a g) m
 | .waste,n,g,m=>if m=n then some (.waste,g) else none
 | .pane i t,n,g,m=>if m=n then some (.pane i t,g) else none
theorem Zkc:∀ {b:BT} {n m:Int} {g c:Box} {q:BT},n≤m→WH b n g m=some (q,c)→(pt b g.X g.Y g.W g.H)[(m-n).toNat]?=some ⟨q.plan,c⟩∧m<n+b.cnt
 | .waste,n,m,g,c,q,hn,h=>by
  unfold WH at h;split at h
  ·rename_i e;cases h;subst e;simp[pt,BT.cnt];omega
  ·cases h
 | .pane i t,n,m,g,c,q,hn,h=>by
  unfold WH at h;split at h
  ·rename_i e;cases h;subst e;simp[pt,BT.cnt];omega
  ·cases h
 | .cut d a l r,n,m,g,c,q,hn,h=>by
  unfold WH at h;split at h
  ·rename_i e;cases h;subst e;simp only[Int.sub_self,pt,BT.cnt];exact⟨rfl,by omega⟩
  ·rename_i e;obtain⟨i,hi⟩:∃ i:Nat,(m-n).toNat=i+1:=⟨(m-n).toNat-1,by omega⟩
   split at h
   ·rename_i h2;obtain⟨k1,k2⟩:=Zkc (by omega) h;have aa : (m-(n+1)).toNat=i:=by omega
    rw[aa] at k1;have hp:=U1 l (XL d a g).X (XL d a g).Y (XL d a g).W (XL d a g).H;have k3:=(Kc.1 k1).1;refine⟨?_,by simp only[BT.cnt];omega⟩;rw[hi];cases d
    ·simp only[XL,Ka,Kf] at k1 k3;simp only[pt,Lj,Ka,Kf];rw[Kq k3];exact k1
    ·simp only[XL,Kh] at k1 k3;simp only[pt,Lj,Kh];rw[Kq k3];exact k1
   ·rename_i h2;obtain⟨k1,k2⟩:=Zkc (by omega) h;refine⟨?_,by simp only[BT.cnt];omega⟩;rw[hi];cases d
    ·simp only[X5,Ka,Kf] at k1;have hp:=U1 l g.X g.Y g.W a;simp only[pt,Lj,Ka,Kf];rw[Kt (by omega),← k1];congr 1;omega
    ·simp only[X5,Kh] at k1;have hp:=U1 l g.X g.Y a g.H;simp only[pt,Lj,Kh];rw[Kt (by omega),← k1];congr 1;omega
def Xg (dn:List Int):BT→Int→Box→List Box
 | .cut d a l r,n,g=>if n∈dn then Xg dn l (n+1) (XL d a g)++Xg dn r (n+1+l.cnt) (X5 d a g) else [g]
 | .waste,_,g=>[g]
 | .pane _ _,_,g=>[g]
def av (dn:List Int):BT→Int→Int→Prop
 | .cut _ _ l r,n,m=>if n∈dn then av dn l (n+1) m∨av dn r (n+1+l.cnt) m else m=n
 | .waste,_,_=>False
 | .pane _ _,_,_=>False
def Cl (dn:List Int):BT→Int→Prop
 | .cut _ _ l r,n=>(n∉dn→∀ m∈dn,m<n∨n+(1+l.cnt+r.cnt)≤m)∧Cl dn l (n+1)∧Cl dn r (n+1+l.cnt)
 | .waste,_=>True
 | .pane _ _,_=>True
theorem ZeF:∀ (b:BT) (n:Int),Cl [] b n
 | .waste,_=>trivial
 | .pane _ _,_=>trivial
 | .cut _ _ l r,n=>⟨fun _ m hm=>(by cases hm),ZeF l _,ZeF r _⟩
theorem ZfO (b:BT) (n:Int) (g:Box):Xg [] b n g=[g]:=by cases b<;>simp[Xg]
theorem YT {dn:List Int} {m x:Int}:x∈dn++[m]↔x∈dn∨x=m:=by simp
theorem Ua {dn:List Int}:∀ {b:BT} {n m:Int},av dn b n m→n≤m∧m<n+b.cnt
 | .waste,_,_,h=>h.elim
 | .pane _ _,_,_,h=>h.elim
 | .cut _ _ l r,n,m,h=>by
  unfold av at h;simp only[BT.cnt];split at h
  ·rcases h with h | h
   ·have:=Ua h;omega
   ·have:=Ua h;omega
  ·omega
theorem Zab {dn:List Int} {m:Int}:∀ {b:BT} {n:Int},Cl dn b n→(m<n∨n+b.cnt≤m)→Cl (dn++[m]) b n
 | .waste,_,_,_=>trivial
 | .pane _ _,_,_,_=>trivial
 | .cut _ _ l r,n,h,hm=>by
  simp only[BT.cnt] at hm;obtain⟨h1,h2,h3⟩:=h;refine⟨fun hn x hx=>?_,Zab h2 (by omega),Zab h3 (by omega)⟩;rw[YT] at hn hx;rcases hx with hx | rfl
  ·exact h1 (fun h=>hn (.inl h)) x hx
  ·omega
theorem Zkd {dn:List Int} {m:Int}:∀ {b:BT} {n:Int},Cl dn b n→av dn b n m→Cl (dn++[m]) b n
 | .waste,_,_,_=>trivial
 | .pane _ _,_,_,_=>trivial
 | .cut _ _ l r,n,h,ha=>by
  have hr:=Ua ha;obtain⟨h1,h2,h3⟩:=h;unfold av at ha;refine⟨fun hn=>?_,?_⟩
  ·rw[YT] at hn;split at ha
   ·rename_i hd;exact absurd (.inl hd) hn
   ·exact absurd (.inr ha.symm) hn
  ·split at ha
   ·rcases ha with ha | ha
    ·have:=Ua ha;exact⟨Zkd h2 ha,Zab h3 (by omega)⟩
    ·have:=Ua ha;exact⟨Zab h2 (by omega),Zkd h3 ha⟩
   ·exact⟨Zab h2 (by omega),Zab h3 (by omega)⟩
theorem Zcd {dn:List Int} {m:Int}:∀ {b:BT} {n:Int} {g:Box},(m<n∨n+b.cnt≤m)→Xg (dn++[m]) b n g=Xg dn b n g
 | .waste,_,_,_=>rfl
 | .pane _ _,_,_,_=>rfl
 | .cut d a l r,n,g,hm=>by
  simp only[BT.cnt] at hm;have e:(n∈dn++[m])=(n∈dn):=by rw[YT];exact propext ⟨fun h=>h.resolve_right (by omega),.inl⟩
  simp only[Xg,e];rw[Zcd (b:=l) (by omega),Zcd (b:=r) (by omega)]
theorem Zlu {dn:List Int} {b:BT} {n:Int} {g:Box} (h:∀ m∈dn,m<n∨n+b.cnt≤m):Xg dn b n g=[g]:=by
 cases b with
 | cut d a l r=>
  have:n∉dn:=fun hn=>by have:=h n hn;simp only[BT.cnt] at this;omega
  simp only[Xg,this,Kf]
 | _=>rfl
def Jd (g:Box):Prop:=1≤g.W∧1≤g.H
theorem Zny {ps:List Pane} {d:Bool} {a:Int} {l r:BT} {g:Box} (hf:Z4 ps (.cut d a l r) g.W g.H=true) (hg:Jd g) :
  (Z4 ps l (XL d a g).W (XL d a g).H=true∧Z4 ps r (X5 d a g).W (X5 d a g).H=true)∧(Jd (XL d a g)∧Jd (X5 d a g))∧(Q6 (XL d a g) g∧Q6 (X5 d a g) g) ∧
  ∀ x y,Q6 x (XL d a g)→Q6 y (X5 d a g)→¬Zcx x y:=by
 unfold Jd at hg ⊢;cases d
 ·simp only[Z4,Kb,Ka,Kf,Kk] at hf;simp only[XL,X5,Ka,Kf,Q6];refine⟨⟨hf.1.2,hf.2⟩,by omega,by omega,fun x y h1 h2=>?_⟩;unfold Zcx;omega
 ·simp only[Z4,Kb,Kh,Kk] at hf;simp only[XL,X5,Kh,Q6];refine⟨⟨hf.1.2,hf.2⟩,by omega,by omega,fun x y h1 h2=>?_⟩;unfold Zcx;omega
theorem UD {a b c:Box} (h1:Q6 a b) (h2:Q6 b c):Q6 a c:=by unfold Q6 at *;omega
theorem Jz (a:Box):Q6 a a:=by unfold Q6;omega
theorem ZmQ {ps:List Pane} {dn:List Int}:∀ {b:BT} {n:Int} {g:Box},Z4 ps b g.W g.H=true→Jd g→(∀ c∈Xg dn b n g,Q6 c g∧Jd c)∧(Xg dn b n g).Pairwise fun x y=>¬Zcx x y
 | .waste,_,g,_,hg=>by simp only[Xg];exact⟨fun c hc=>by rw[KI.1 hc];exact⟨Jz g,hg⟩,by simp⟩
 | .pane _ _,_,g,_,hg=>by simp only[Xg];exact⟨fun c hc=>by rw[KI.1 hc];exact⟨Jz g,hg⟩,by simp⟩
 | .cut d a l r,n,g,hf,hg=>by
  obtain⟨⟨f1,f2⟩,⟨p1,p2⟩,⟨i1,i2⟩,ha⟩:=Zny hf hg;obtain⟨a1,a2⟩:=ZmQ (dn:=dn) (n:=n+1) f1 p1;obtain⟨b1,b2⟩:=ZmQ (dn:=dn) (n:=n+1+l.cnt) f2 p2;simp only[Xg];split
  ·refine⟨fun c hc=>?_,Lr.2 ⟨a2,b2,fun x hx y hy=>ha x y (a1 x hx).1 (b1 y hy).1⟩⟩;rcases Kd.1 hc with hc | hc
   ·exact⟨UD (a1 c hc).1 i1,(a1 c hc).2⟩
   ·exact⟨UD (b1 c hc).1 i2,(b1 c hc).2⟩
  ·exact⟨fun c hc=>by rw[KI.1 hc];exact⟨Jz g,hg⟩,by simp⟩
theorem ZoH {ps:List Pane} {dn:List Int} {b:BT} {n:Int} {g:Box} (hf:Z4 ps b g.W g.H=true) (hg:Jd g):(Xg dn b n g).Nodup:=by
 obtain⟨h1,h2⟩:=ZmQ (dn:=dn) (n:=n) hf hg;refine List.Pairwise.imp_of_mem (fun {x y} hx _ hm e=>hm ?_) h2;subst e;have:=(h1 x hx).2;unfold Jd at this;unfold Zcx;omega
theorem Zhr {ps:List Pane} {dn:List Int} {m:Int}:∀ {b:BT} {n:Int} {g:Box},Cl dn b n→av dn b n m→Z4 ps b g.W g.H=true→Jd g →
  ∃ d a l r c,WH b n g m=some (.cut d a l r,c)∧Z4 ps (.cut d a l r) c.W c.H=true∧Q6 c g∧Jd c∧c∈Xg dn b n g∧(Xg (dn++[m]) b n g).Perm ((Xg dn b n g).erase c++[XL d a c,X5 d a c])
 | .waste,_,_,_,h,_,_=>h.elim
 | .pane _ _,_,_,_,h,_,_=>h.elim
 | .cut d a l r,n,g,hC,ha,hf,hg=>by
  obtain⟨h1,h2,h3⟩:=hC;obtain⟨⟨f1,f2⟩,⟨p1,p2⟩,⟨i1,i2⟩,aa⟩:=Zny hf hg;unfold av at ha;by_cases hn:n∈dn
  ·rw[Kv hn] at ha;have e1:Xg dn (.cut d a l r) n g=Xg dn l (n+1) (XL d a g)++Xg dn r (n+1+l.cnt) (X5 d a g):=by simp only[Xg,hn,Kh]
   have e2:Xg (dn++[m]) (.cut d a l r) n g=Xg (dn++[m]) l (n+1) (XL d a g)++Xg (dn++[m]) r (n+1+l.cnt) (X5 d a g):=by
    have:n∈dn++[m]:=YT.2 (.inl hn);simp only[Xg,this,Kh]
   rw[e1,e2];rcases ha with ha | ha
   ·have hr:=Ua ha;obtain⟨d',a',l',r',c,k1,k2,k3,k4,k5,k6⟩:=Zhr h2 ha f1 p1;refine⟨d',a',l',r',c,?_,k2,UD k3 i1,k4,List.mem_append_left _ k5,?_⟩
    ·unfold WH;rw[Kp (by omega),Kv (by omega)];exact k1
    ·rw[Zcd (b:=r) (by omega),List.erase_append_left _ k5];refine(k6.append_right _).trans ?_;rw[Kw,Kw];exact List.Perm.append_left _ List.perm_append_comm
   ·have hr:=Ua ha;obtain⟨d',a',l',r',c,k1,k2,k3,k4,k5,k6⟩:=Zhr h3 ha f2 p2;refine⟨d',a',l',r',c,?_,k2,UD k3 i2,k4,List.mem_append_right _ k5,?_⟩
    ·unfold WH;rw[Kp (by omega),Kp (by omega)];exact k1
    ·rw[Zcd (b:=l) (by omega)];have q1:((Xg dn l (n+1) (XL d a g)++Xg dn r (n+1+l.cnt) (X5 d a g)).erase c).Perm (Xg dn l (n+1) (XL d a g)++(Xg dn r (n+1+l.cnt) (X5 d a g)).erase c):=by
      refine(List.perm_append_comm.erase c).trans ?_;rw[List.erase_append_left _ k5];exact List.perm_append_comm
     refine(List.Perm.append_left _ k6).trans ?_;rw[← Kw];exact(q1.append_right _).symm
  ·rw[Kp hn] at ha;subst ha;have hz:=h1 hn;refine⟨d,a,l,r,g,by unfold WH;rw[Kv rfl],hf,Jz g,hg,?_,?_⟩
   ·simp only[Xg,hn,Kf];simp
   ·have:m∈dn++[m]:=YT.2 (.inr rfl);have e1:Xg dn (.cut d a l r) m g=[g]:=by simp only[Xg,hn,Kf]
    have e2:Xg (dn++[m]) (.cut d a l r) m g=Xg (dn++[m]) l (m+1) (XL d a g)++Xg (dn++[m]) r (m+1+l.cnt) (X5 d a g):=by simp only[Xg,this,Kh]
    rw[e1,e2,Zlu (b:=l),Zlu (b:=r)]
    ·simp
    ·intro x hx;rcases YT.1 hx with hx | rfl
     ·have:=hz x hx;omega
     ·omega
    ·intro x hx;rcases YT.1 hx with hx | rfl
     ·have:=hz x hx;omega
     ·omega
theorem ZpK {dn:List Int} {m ab:Int}:∀ {b:BT} {n a:Int},(m,ab)∈kn b n a→Cl dn b n→m∉dn→(m=n∨ab∈dn)→av dn b n m
 | .waste,n,a,h,_,_,_=>by simp[kn] at h
 | .pane _ _,n,a,h,_,_,_=>by simp[kn] at h
 | .cut d c l r,n,a,h,hC,hm,ho=>by
  have hr:=Jc h;simp only[BT.cnt] at hr;obtain⟨h1,h2,h3⟩:=hC;simp only[kn,Ke,Kd,Prod.mk.injEq] at h;unfold av;by_cases hn:n∈dn
  ·rw[Kv hn];rcases h with ⟨rfl,rfl⟩ | h | h
   ·exact absurd hn hm
   ·have hk:=Jc h;refine .inl (ZpK h h2 hm ?_);rcases ho with rfl | ho
    ·simp only at hk;omega
    ·exact .inr ho
   ·have hk:=Jc h;refine .inr (ZpK h h3 hm ?_);rcases ho with rfl | ho
    ·simp only at hk;omega
    ·exact .inr ho
  ·rw[Kp hn];rcases ho with rfl | ho
   ·rfl
   ·have:=h1 hn ab ho;omega
def okN (K:List (Int×Int)) (dn:List Int) (m:Int):Bool:=match K.find? fun q=>q.1==m with
 | some q=>!decide (m∈dn)&&(decide (q.2<0) || decide (q.2∈dn))
 | none=>false
def okS (K:List (Int×Int)):List Int→List Int→Bool
 | _,[]=>true
 | dn,m :: r=>okN K dn m&&okS K (dn++[m]) r
theorem okN_av {b:BT} {dn:List Int} {m:Int} (h:okN (kn b 0 (-1)) dn m=true) (hC:Cl dn b 0):av dn b 0 m:=by
 unfold okN at h;split at h
 ·rename_i q hq;obtain⟨x,y⟩:=q;have h1:=List.find?_some hq;have h2:=List.mem_of_find?_eq_some hq;simp only[beq_iff_eq] at h1;subst h1;simp only[Kb,KF,KC,K3,Kk] at h;refine ZpK h2 hC h.1 ?_;rcases h.2 with h | h
  ·left;have:=Jc h2;simp only at this;omega
  ·exact .inr h
 ·cases h
theorem Zke {ps:List Pane} {b:BT} {g:Box} {dn:List Int} {m:Int} {t:List Box} (hf:Z4 ps b g.W g.H=true) (hg:Jd g) (hC:Cl dn b 0) (ht:t.Perm (Xg dn b 0 g)) (ho:okN (kn b 0 (-1)) dn m=true) :
  ∃ d a l r c,(0≤m∧m<b.cnt)∧WH b 0 g m=some (.cut d a l r,c)∧Z4 ps (.cut d a l r) c.W c.H=true∧Q6 c g∧Jd c∧c∈t∧t.Nodup∧Cl (dn++[m]) b 0∧(t.erase c++[XL d a c,X5 d a c]).Perm (Xg (dn++[m]) b 0 g):=by
 have ha:=okN_av ho hC;have hr:=Ua ha;obtain⟨d,a,l,r,c,h1,h2,h3,h4,h5,h6⟩:=Zhr hC ha hf hg;exact⟨d,a,l,r,c,by omega,h1,h2,h3,h4,ht.mem_iff.2 h5,ht.nodup_iff.2 (ZoH hf hg),Zkd hC ha,((ht.erase c).append_right _).trans h6.symm⟩
def goS (b:BT) (g:Box):List Box→List Int→List Box
 | t,[]=>t
 | t,m :: r=>match WH b 0 g m with
  | some (.cut d a _ _,c)=>goS b g (t.erase c++[XL d a c,X5 d a c]) r
  | _=>goS b g t r
theorem Zhs {b:BT} {g c:Box} {t:List Box} {m a:Int} {r:List Int} {d:Bool} {l r' : BT} (h:WH b 0 g m=some (.cut d a l r',c)):goS b g t (m :: r)=goS b g (t.erase c++[XL d a c,X5 d a c]) r:=by rw[goS,h]
def Ub (k:QR) (p:Ze) (s:List Int):Option (List Box):=match Qp p with
 | some b=>if XN k p&&okS (kn b 0 (-1)) [] s then some (goS b ⟨0,0,k.W,k.H⟩ [⟨0,0,k.W,k.H⟩] s) else none
 | none=>none
theorem Zkf {ps:List Pane} {b:BT} {g:Box} (hf:Z4 ps b g.W g.H=true) (hg:Jd g):∀ {s dn:List Int} {t:List Box},Cl dn b 0→t.Perm (Xg dn b 0 g)→okS (kn b 0 (-1)) dn s=true→(goS b g t s).Perm (Xg (dn++s) b 0 g)∧Cl (dn++s) b 0
 | [],dn,t,hC,ht,ho=>by simpa [goS] using ⟨ht,hC⟩
 | m :: r,dn,t,hC,ht,ho=>by
  simp only[okS,Kb] at ho;obtain⟨d,a,l,r',c,_,h1,_,_,_,_,_,h7,h8⟩:=Zke hf hg hC ht ho.1;rw[Zhs h1];have:=Zkf hf hg h7 h8 ho.2
  rwa [Kw,List.singleton_append] at this
theorem Zht:∀ {b:BT} {n m:Int} {g c:Box} {q:BT},WH b n g m=some (q,c)→q.cnt≤b.cnt
 | .waste,n,m,g,c,q,h=>by
  unfold WH at h;split at h
  ·cases h;exact Kj _
  ·cases h
 | .pane i t,n,m,g,c,q,h=>by
  unfold WH at h;split at h
  ·cases h;exact Kj _
  ·cases h
 | .cut d a l r,n,m,g,c,q,h=>by
  unfold WH at h;split at h
  ·cases h;exact Kj _
  ·simp only[BT.cnt];split at h
   ·have:=Zht h;omega
   ·have:=Zht h;omega
theorem ZfP (dn:List Int):∀ (b:BT) (n:Int) (g:Box),(Xg dn b n g).length≤b.cnt
 | .waste,_,_=>Kj _
 | .pane _ _,_,_=>Kj _
 | .cut d a l r,n,g=>by
  have h1:=ZfP dn l (n+1) (XL d a g);have h2:=ZfP dn r (n+1+l.cnt) (X5 d a g);simp only[Xg,BT.cnt];split
  ·rw[Kg];omega
  ·simp;omega
theorem ZqQ {ps:List Pane} {b:BT} {g:Box} {s:List Int} (hf:Z4 ps b g.W g.H=true) (hg:Jd g) (ho:okS (kn b 0 (-1)) [] s=true):(goS b g [g] s).length≤b.cnt:=by
 have h:=(Zkf hf hg (ZeF b 0) (t:=[g]) (by rw[ZfO]) ho).1;rw[h.length_eq];exact ZfP _ _ _ _
def Zac (q:Int×Int):D:=.agg [J q.1,J q.2]
@[go_sem] theorem encK_mk (a b:Int):Zac (a,b)=.agg [J a,J b]:=rfl
@[go_sem] theorem uni_K (l:List (Int×Int)):uni 2 (l.map Zac)=True:=eq_true (Uw l fun _=>rfl)
@[go_sem] theorem flat_K (l:List (Int×Int)):QA (l.map Zac)=True:=eq_true (UQ l fun _=>rfl)
def kaV (b:BT) (xs:List D) (n a:Int):AV×List Zh:=match b with
 | .cut d c l r=>(.tup [.own 1,(.d (J (n+((BT.cut d c l r).cnt:Nat))))],[.gone,.row 2 (xs++(kn (.cut d c l r) n a).map Zac) true false])
 | _=>(.tup [.own 0,(.d (J (n+1)))],[.row 2 xs true false])
theorem Zce (b:BT):(∃ d c l r,b=.cut d c l r)∨(b.cnt=1∧(∀ n a,kn b n a=[])∧∀ xs n a,kaV b xs n a=(.tup [.own 0,(.d (J (n+1)))],[.row 2 xs true false])):=by
 cases b with
 | cut d' c' l' r'=>exact .inl ⟨_,_,_,_,rfl⟩
 | _=>exact .inr ⟨rfl,fun _ _=>rfl,fun _ _ _=>rfl⟩
theorem Zcf {b:BT} {xs:List D} {n a:Int} (h:∃ d c l r,b=.cut d c l r):kaV b xs n a=(.tup [.own 1,(.d (J (n+(b.cnt:Nat))))],[.gone,.row 2 (xs++(kn b n a).map Zac) true false]):=by
 obtain⟨d,c,l,r,rfl⟩:=h;rfl
theorem Wt:∀ (b:BT) (xs:List D) (n a:Int),0≤n→n+b.cnt≤1000→xs.length+b.cnt≤1000 →
  Zl Xs Ms ZV [.own 0,.d b.plan.enc,(.d (J n)),(.d (J a))] [.row 2 xs true false]=some (kaV b xs n a)
 | .waste,xs,n,a,h0,h1,h2=>by
  have w1:=wi (n+1) (by omega) (by simp only[BT.cnt] at h1;omega);simp only[BT.plan,Ze.enc_mk,kaV];refine cE ?_;simp +contextual -implicitDefEqProofs (maxSteps:=10^7) only[go_sem,seval,↓gZ,Z9,Zj,w1]
 | .pane i t,xs,n,a,h0,h1,h2=>by
  have w1:=wi (n+1) (by omega) (by simp only[BT.cnt] at h1;omega);simp only[BT.plan,Ze.enc_mk,kaV];refine cE ?_;simp +contextual -implicitDefEqProofs (maxSteps:=10^7) only[go_sem,seval,↓gZ,Z9,Zj,w1]
 | .cut d c l r,xs,n,a,h0,h1,h2=>by
  simp only[BT.cnt] at h1 h2;have w1:=wi (n+1) (by omega) (by omega);have hr:(xs.length+1)*16≤140737488355328∧xs.length≤140737488355327:=by omega
  have kl:=XV l (n+1) n;have e1:=Wt l (xs++[.agg [J n,J a]]) (n+1) n (by omega) (by omega) (by simp only[Kg,Ki,KA];omega);have e2:=Wt r (xs++[.agg [J n,J a]]++(kn l (n+1) n).map Zac) (n+1+l.cnt) n (by omega) (by omega) (by simp only[Kg,Ki,KA,KG];omega);have e3:n+((1+l.cnt+r.cnt:Nat):Int)=n+1+l.cnt+r.cnt:=by push_cast;omega
  have hd:(Q9 d=2∨Q9 d=3)=True:=eq_true (by cases d<;>simp[Q9]);simp only[BT.plan,Ze.enc_mk,kaV,kn,BT.cnt,e3];rcases Zce l with hl | ⟨af,ag,ah⟩
  ·rw[Zcf hl] at e1;rcases Zce r with aa | ⟨ab,ad,ae⟩
   ·rw[Zcf aa] at e2;refine cE ?_;simp +contextual -implicitDefEqProofs (maxSteps:=10^7) only[go_sem,seval,↓gZ,Z9,Zj,hd,hr,w1,e1,e2];try (simp[Zac];done)
   ·rw[ae] at e2;rw[ad,ab];refine cE ?_;simp +contextual -implicitDefEqProofs (maxSteps:=10^7) only[go_sem,seval,↓gZ,Z9,Zj,hd,hr,w1,e1,e2];try (simp[Zac];done)
  ·rw[ah] at e1;rw[ag,af,Ku,K8,show ((1:Nat):Int)=1 from rfl] at e2;rw[ag,af,show ((1:Nat):Int)=1 from rfl];rcases Zce r with aa | ⟨ab,ad,ae⟩
   ·rw[Zcf aa] at e2;refine cE ?_;simp +contextual -implicitDefEqProofs (maxSteps:=10^7) only[go_sem,seval,↓gZ,Z9,Zj,hd,hr,w1,e1,e2];try (simp[Zac];done)
   ·rw[ae] at e2;rw[ad,ab];refine cE ?_;simp +contextual -implicitDefEqProofs (maxSteps:=10^7) only[go_sem,seval,↓gZ,Z9,Zj,hd,hr,w1,e1,e2];try (simp[Zac];done)
theorem Zhu:∀ (b:BT),b.cnt≤255→Zl Xs Ms ZV [.nil,.d b.plan.enc,(.d (J 0)),(.d (J (-1)))] []=some (.tup [.own 0,(.d (J ((b.cnt:Nat))))],[.row 2 ((kn b 0 (-1)).map Zac) true false])
 | .waste,h2=>by
  simp only[BT.plan,Ze.enc_mk,kn,BT.cnt];refine cE ?_;simp +contextual -implicitDefEqProofs (maxSteps:=10^7) only[go_sem,seval,↓gZ,Z9,Zj]
 | .pane i t,h2=>by
  simp only[BT.plan,Ze.enc_mk,kn,BT.cnt];refine cE ?_;simp +contextual -implicitDefEqProofs (maxSteps:=10^7) only[go_sem,seval,↓gZ,Z9,Zj]
 | .cut d c l r,h2=>by
  simp only[BT.cnt] at h2;have hr:1*16≤Zt∧1≤Zt:=by unfold Zt;omega
  have kl:=XV l 1 0;have e1:=Wt l [.agg [J 0,J (-1)]] 1 0 (by omega) (by omega) (by simp only[Ki,KA];omega);have e2:=Wt r (.agg [J 0,J (-1)] :: (kn l 1 0).map Zac) (1+l.cnt) 0 (by omega) (by omega) (by simp only[Ki,KG] at kl ⊢;omega);have e3:((1+l.cnt+r.cnt:Nat):Int)=1+l.cnt+r.cnt:=by push_cast;omega
  have hd:(Q9 d=2∨Q9 d=3)=True:=eq_true (by cases d<;>simp[Q9]);simp only[BT.plan,Ze.enc_mk,kn,BT.cnt,e3,Int.zero_add];rcases Zce l with hl | ⟨af,ag,ah⟩
  ·rw[Zcf hl] at e1;rcases Zce r with aa | ⟨ab,ad,ae⟩
   ·rw[Zcf aa] at e2;refine cE ?_;simp +contextual -implicitDefEqProofs (maxSteps:=10^7) only[go_sem,seval,↓gZ,Z9,Zj,hd,hr,e1,e2];try (simp[Zac];done)
   ·rw[ae] at e2;rw[ad,ab];refine cE ?_;simp +contextual -implicitDefEqProofs (maxSteps:=10^7) only[go_sem,seval,↓gZ,Z9,Zj,hd,hr,e1,e2];try (simp[Zac];done)
  ·rw[ah,show (1:Int)+1=2 from rfl] at e1;rw[ag,af,Ku,show ((1:Nat):Int)=1 from rfl,show (1:Int)+1=2 from rfl] at e2;rw[ag,af,show ((1:Nat):Int)=1 from rfl,show (1:Int)+1=2 from rfl];rcases Zce r with aa | ⟨ab,ad,ae⟩
   ·rw[Zcf aa] at e2;refine cE ?_;simp +contextual -implicitDefEqProofs (maxSteps:=10^7) only[go_sem,seval,↓gZ,Z9,Zj,hd,hr,e1,e2];try (simp[Zac];done)
   ·rw[ae] at e2;rw[ad,ab];refine cE ?_;simp +contextual -implicitDefEqProofs (maxSteps:=10^7) only[go_sem,seval,↓gZ,Z9,Zj,hd,hr,e1,e2];try (simp[Zac];done)
def Um (p:Ze):List (Int×Int):=match Qp p with
 | some b=>if b.cnt≤255 then kn b 0 (-1) else []
 | none=>[]
def wfP (p:Ze):Bool:=decide (0≤Zi 255 (Qp p))
theorem Zd1 (p:Ze):Zl Xs Ms V3 [.d p.enc] []=some (.tup [.own 0,(.d (.bool (wfP p)))],[.row 2 ((Um p).map Zac) true false]):=by
 have hs:=Yh p;unfold wfP Um;cases hb:Qp p with
 | none=>
  rw[hb] at hs;obtain⟨o,a,q,t,ks⟩:=p;rw[Ze.enc_mk] at hs ⊢;refine cE ?_;simp +contextual -implicitDefEqProofs (maxSteps:=10^7) only[go_sem,seval,↓gZ,Uf,hs,Zi]
 | some b=>
  have hp:=Y6 hb;rw[hb] at hs;have hc:=b.cnt_pos;have hz:=ZH 255 b;by_cases h2:b.cnt≤255
  ·have h3:Zi 255 (some b)=b.cnt:=by omega
   have h4:¬(b.cnt:Int)<0:=by omega
   have ek:=Zhu b h2;rw[← hp] at ek;rw[h3] at hs ⊢;simp only[h2,Kh];obtain⟨o,a,q,t,ks⟩:=p;rw[Ze.enc_mk] at hs ek ⊢;refine cE ?_;simp +contextual -implicitDefEqProofs (maxSteps:=10^7) only[go_sem,seval,↓gZ,Uf,hs,h4,ek]
  ·have h3:Zi 255 (some b)=-1:=by omega
   rw[h3] at hs ⊢;simp only[h2,Kf];obtain⟨o,a,q,t,ks⟩:=p;rw[Ze.enc_mk] at hs ⊢;refine cE ?_;simp +contextual -implicitDefEqProofs (maxSteps:=10^7) only[go_sem,seval,↓gZ,Uf,hs]
def fKn:Nat→List (Int×Int)→Int→Int
 | _,[],_=>-1
 | k,x :: l,n=>if x.1=n then (k:Int) else fKn (k+1) l n
theorem ZpL {l:List (Int×Int)} {k:Nat} {x:Int×Int} {n:Int} (hx:l[k]?=some x):fKn k (l.drop k) n=if x.1=n then (k:Int) else fKn (k+1) (l.drop (k+1)) n:=by
 obtain⟨h1,h2⟩:=Kc.1 hx;rw[KQ h1,h2,fKn]
theorem Zhv:∀ (l:List (Int×Int)) (k:Nat) (n:Int),(fKn k l n<0∧(l.find? fun q=>q.1==n)=none)∨∃ i q,fKn k l n=((k+i:Nat):Int)∧l[i]?=some q∧q.1=n∧(l.find? fun q=>q.1==n)=some q
 | [],k,n=>.inl ⟨by simp[fKn],rfl⟩
 | x :: l,k,n=>by
  by_cases h:x.1=n
  ·exact .inr ⟨0,x,by simp[fKn,h],rfl,h,by simp[List.find?,h]⟩
  ·rcases Zhv l (k+1) n with ⟨h1,h2⟩ | ⟨i,q,h1,h2,h3,h4⟩
   ·exact .inl ⟨by simp only[fKn,h,Kf];exact h1,by rw[List.find?_cons_of_neg (by simpa using h)];exact h2⟩
   ·exact .inr ⟨i+1,q,by simp only[fKn,h,Kf];rw[h1];congr 1;omega,by simpa using h2,h3,by rw[List.find?_cons_of_neg (by simpa using h)];exact h4⟩
theorem Zfu (a b n:Int):Zl Xs Ms XY [.d (.agg [J a,J b]),.ptr 0 0] [.box [(.d (J n))]]=some ((.d (.bool (decide (a=n)))),[.box [(.d (J n))]]):=by
 refine cE ?_;simp +contextual -implicitDefEqProofs (maxSteps:=10^7) only[go_sem,seval,↓gZ,Jk]
theorem Zlv (l:List (Int×Int)) (n:Int) (hl:l.length<4611686018427387904):Zl Xs Ms QN [.d (.sl (l.map Zac)),.clo XY [.ptr 0 0]] [.box [(.d (J n))]]=some ((.d (J (fKn 0 l n))),[.box [(.d (J n))]]):=by
 refine cE ?_;simp +contextual -implicitDefEqProofs (maxSteps:=10^7) only[go_sem,seval,↓gZ,Ys];refine LO (α:=Nat) (fun k=>[(8,.d (J (k:Int)))]) (fun _=>[]) (fun k=>k≤l.length∧fKn k (l.drop k) n=fKn 0 l n) (fun k=>l.length-k) 0 ⟨by omega,rfl⟩ ?_;intro k ⟨hk,hp⟩ ih;by_cases aa:k<l.length
 ·obtain⟨x,hx⟩:=Qx aa;rw[ZpL hx] at hp;have hw:=ZY (k:=k) (by omega);have e1:=Zfu x.1 x.2 n;obtain⟨a,b⟩:=x;simp only at hp e1;by_cases h:a=n
  ·rw[Kv h] at hp;rw[K7 h] at e1;simp +contextual -implicitDefEqProofs (maxSteps:=10^7) only[go_sem,seval,↓gZ,hx,aa,hw,e1];rw[← hp]
  ·rw[Kp h] at hp;rw[Ln h] at e1;simp +contextual -implicitDefEqProofs (maxSteps:=10^7) only[go_sem,seval,↓gZ,hx,aa,hw,e1];refine ih (k+1) _ ⟨by omega,hp⟩ (by omega) ?_;simp +contextual -implicitDefEqProofs (maxSteps:=10^7) only[go_sem,seval,↓gZ]
 ·have:k=l.length:=by omega
  subst this;simp +contextual -implicitDefEqProofs (maxSteps:=10^7) only[go_sem,seval,↓gZ];rw[← hp];simp[fKn]
theorem Zh2 (l:List (Int×Int)) (n:Int) (hl:l.length<4611686018427387904):Zl Xs Ms WA [.d (.sl (l.map Zac)),(.d (J n))] []=some ((.d (J (fKn 0 l n))),[]):=by
 have e1:=Zlv l n hl;refine cE ?_;simp +contextual -implicitDefEqProofs (maxSteps:=10^7) only[go_sem,seval,↓gZ,ZaX,e1]
def Je (N:Nat) (P:Nat→Bool):List AV:=(List.range N).map fun x=>.d (.bool (P x))
theorem Zhw (N:Nat) (P:Nat→Bool):(Je N P).length=N:=by simp[Je]
theorem ZbG {N:Nat} (P:Nat→Bool) {x:Nat} (h:x<N):(Je N P)[x]?=some (.d (.bool (P x))):=by
 simp[Je,h]
theorem splice_one {α:Type} {cs:List α} {x:Nat} {v:α} (h:x<cs.length):Zm cs x [v]=cs.set x v:=by
 rw[List.set_eq_take_append_cons_drop,Kv h];simp[Zm]
theorem ZpM {N:Nat} (P:Nat→Bool) {x:Nat} (h:x<N):Zm (Je N P) x [.d (.bool true)]=Je N (fun z=>P z || z==x):=by
 rw[splice_one (by rw[Zhw];exact h)];refine Lc fun i=>?_;rw[List.getElem?_set,Zhw];by_cases h1:i<N
 ·by_cases h2:x=i
  ·subst h2;rw[Kv rfl,Kv h,ZbG _ h,beq_self_eq_true,Bool.or_true]
  ·rw[Kp h2,ZbG _ h1,ZbG _ h1];have h3:(i==x)=false:=beq_false_of_ne fun e=>h2 e.symm;rw[h3,Bool.or_false]
 ·rw[Kp (by omega)];simp[Je,h1]
theorem ZoI (N:Nat):List.replicate N (AV.d (.bool false))=Je N (fun _=>false):=by
 unfold Je;rw[List.map_const',List.length_range]
theorem Zlw (N:Nat) (P:Nat→Bool):Zbf (Je N P)=false:=by
 have h:∀ l:List Nat,Zbf (l.map fun x=>AV.d (.bool (P x)))=false:=fun l=>by
  induction l with
  | nil=>rfl
  | cons a l ih=>exact ih
 exact h _
theorem Zc4 (N:Nat) (P:Nat→Bool):QP (Je N P)=true:=by
 have h:∀ l:List Nat,QP (l.map fun x=>AV.d (.bool (P x)))=true:=fun l=>by
  induction l with
  | nil=>rfl
  | cons a l ih=>exact ih
 exact h _
theorem ZpN (g:Nat) (N:Nat) (P:Nat→Bool):(Je N P).map (Zcj g)=Je N P:=by
 unfold Je;rw[List.map_map];exact Ky fun _ _=>rfl
theorem Vb (N:Nat) (P:Nat→Bool):(Je N P).flatMap Zp=[]:=by
 unfold Je;rw[List.flatMap_map];simp[Zp,Zf]
theorem Wu (g:Nat→Nat) (N:Nat) (P:Nat→Bool):(Je N P).map (JE g)=Je N P:=by
 unfold Je;rw[List.map_map];exact Ky fun _ _=>rfl
theorem Vc (g:List Nat) (N:Nat) (P:Nat→Bool):(Je N P).map (ZB g)=Je N P:=by
 unfold Je;rw[List.map_map];exact Ky fun _ _=>rfl
def Za1 (s:List Int) (x:Nat):Bool:=decide ((x:Int)∈s)
theorem Zhx {s:List Int} {i n:Nat} (h:s[i]?=some (n:Int)):(fun z=>Za1 (s.take i) z || z==n)=Za1 (s.take (i+1)):=by
 funext z
 unfold Za1;rw[Lb,h,Bool.eq_iff_iff];simp only[K3,Kk,beq_iff_eq,Kd,Option.toList_some,KI];exact or_congr Iff.rfl Int.ofNat_inj.symm
theorem Zhy {K:List (Int×Int)} {s:List Int} {i:Nat} {n:Int} (h:s[i]?=some n):okS K (s.take i) (s.drop i)=(okN K (s.take i) n&&okS K (s.take (i+1)) (s.drop (i+1))):=by
 obtain⟨h1,h2⟩:=Kc.1 h;rw[KQ h1,h2,okS,Lb,h];rfl
theorem Zad (K:List (Int×Int)) (s:List Int) (hK:∀ q∈K,0≤q.1∧q.1<255∧q.2<255) (hl:K.length≤255) (hs:s.length≤1048576):Zl Xs Ms Xy [.d (.sl (K.map Zac)),.d (.sl (s.map Xa))] []=some ((.d (.bool (okS K [] s))),[]):=by
 refine cE ?_;simp +contextual -implicitDefEqProofs (maxSteps:=10^7) only[go_sem,seval,↓gZ,Un,ZoI,ZpN,Zc4,Zlw];refine Zdt Xs Ms (st0:=?st0) (α:=Nat) (fun i=>[(12,.d (J (i:Int)))]) (fun i=>[(0,.box (Je 255 (Za1 (s.take i))))]) (fun i=>i≤s.length∧okS K (s.take i) (s.drop i)=okS K [] s) (fun i=>s.length-i) 0 ?hc ⟨by omega,by simp⟩ ?h0 ?step
 case hc=>simp +contextual -implicitDefEqProofs (maxSteps:=10^7) only[go_sem,seval,↓gZ,Vb,Wu,Vc]<;>exact rfl
 case h0=>rfl
 case step=>
  intro i ⟨hi,hp⟩ ih;by_cases ae:i<s.length
  ·obtain⟨n,hx⟩:=Qx ae;have hw:=ZY (k:=i) (by omega);rw[Zhy hx] at hp;have ef:=Zh2 K n (by omega);have af:=Zhw 255 (Za1 (s.take i));rcases Zhv K 0 n with ⟨h1,h2⟩ | ⟨j,q,h1,h2,h3,h4⟩
   ·have hn:okN K (s.take i) n=false:=by unfold okN;rw[h2]
    rw[hn,K6] at hp;simp +contextual -implicitDefEqProofs (maxSteps:=10^7) only[go_sem,seval,↓gZ,hx,ae,hw,ef,h1,Vb,Wu,Vc];rw[← hp]
   ·have hq:=hK q (Kr h2);obtain⟨n',rfl⟩:∃ m:Nat,n=(m:Int):=⟨n.toNat,by omega⟩
    rw[K0] at h1;have ai:=(Kc.1 h2).1;have hn:okN K (s.take i) n'=(!Za1 (s.take i) n'&&(decide (q.2<0) || decide (q.2∈s.take i))):=by unfold okN Za1;rw[h4]
    obtain⟨q1,q2⟩:=q;simp only at hq h3 hn;have aa:n' < 255:=by omega
    have ab : (n' : Int)<255:=by omega
    have ad:n'≤254:=by omega
    have ag:¬(j:Int)<0:=by omega
    have g1:=ZbG (Za1 (s.take i)) aa;have g3:=ZpM (Za1 (s.take i)) aa;rw[h1] at ef;cases hd:Za1 (s.take i) n' with
    | true=>
     rw[hd] at hn g1;rw[hn] at hp;simp only[Bool.not_true,K6] at hp;simp +contextual -implicitDefEqProofs (maxSteps:=10^7) only[go_sem,seval,↓gZ,hx,ae,hw,ef,ag,aa,ab,g1,af,K0,Nat.mul_one,Vb,Wu,Vc];rw[← hp]
    | false=>
     rw[hd] at hn g1;rw[hn] at hp;simp only[Bool.not_false,KO] at hp;by_cases h0:q2<0
     ·have ah:¬0≤q2:=by omega
      rw[K7 h0,Bool.true_or,KO] at hp;simp +contextual -implicitDefEqProofs (maxSteps:=10^7) only[go_sem,seval,↓gZ,hx,ae,hw,ef,ag,aa,ab,g1,af,K0,Nat.mul_one,h2,ai,ah,g3,ad,Zc4,Vb,Wu,Vc,Zhx hx];refine ih (i+1) _ ⟨by omega,hp⟩ (by omega) ?_;simp +contextual -implicitDefEqProofs (maxSteps:=10^7) only[go_sem,seval,↓gZ,Vb,Wu,Vc]
     ·have ah:0≤q2:=by omega
      obtain⟨a',rfl⟩:∃ m:Nat,q2=(m:Int):=⟨q2.toNat,by omega⟩
      have ha:a' < 255:=by omega
      have aj : (a' : Int)<255:=by omega
      have g2:=ZbG (Za1 (s.take i)) ha;rw[Ln h0,Bool.false_or] at hp;cases hd2:Za1 (s.take i) a' with
      | true=>
       rw[hd2] at g2;have:decide ((a' : Int)∈s.take i)=true:=hd2;rw[this,KO] at hp;simp +contextual -implicitDefEqProofs (maxSteps:=10^7) only[go_sem,seval,↓gZ,hx,ae,hw,ef,ag,aa,ab,g1,af,K0,Nat.mul_one,h2,ai,ah,ha,aj,g2,g3,ad,Zc4,Vb,Wu,Vc,Zhx hx];refine ih (i+1) _ ⟨by omega,hp⟩ (by omega) ?_;simp +contextual -implicitDefEqProofs (maxSteps:=10^7) only[go_sem,seval,↓gZ,Vb,Wu,Vc]
      | false=>
       rw[hd2] at g2;have:decide ((a' : Int)∈s.take i)=false:=hd2;rw[this,K6] at hp;simp +contextual -implicitDefEqProofs (maxSteps:=10^7) only[go_sem,seval,↓gZ,hx,ae,hw,ef,ag,aa,ab,g1,af,K0,Nat.mul_one,h2,ai,ah,ha,aj,g2,Vb,Wu,Vc];rw[← hp]
  ·have:i=s.length:=by omega
   subst this;simp only[List.drop_length,okS] at hp;simp +contextual -implicitDefEqProofs (maxSteps:=10^7) only[go_sem,seval,↓gZ,Vb,Wu,Vc];rw[← hp]
end Go.Proofs.Ytighjmleicikhaa
