/- Own text. -/
import Derived.Test.YtefabmohhbhlfaaACode
import Derived.Test.YtefabmohhbhlfaaAbsParts
import Derived.Test.YtefabmohhbhlfaaAC7
import Derived.Test.YtefabmohhbhlfaaAbsOkD
namespace Go.Proofs.Ytefabmohhbhlfaa
open Go Go.Abs Go.Abs.E Go.Abs.L
open Nat (reduceMul reduceSub reduceLeDiff reduceEqDiff)
open Int (reduceLE reduceEq reduceToNat reduceNeg)
set_option linter.unusedSimpArgs false
set_option linter.unusedVariables false
set_option maxRecDepth 20000
set_option maxHeartbeats 4000000
theorem Zew:∀ (b:BT) (n a:Int),((kn b n a).map Prod.fst).Nodup
 | .waste,n,a=>by simp[kn]
 | .pane _ _,n,a=>by simp[kn]
 | .cut d c l r,n,a=>by
  have h1:=Zew l (n+1) n;have h2:=Zew r (n+1+l.cnt) n;simp only[kn,Kn,KM,KY,Kc,KQ,Lw];refine⟨?_,h1,h2,?_⟩
  ·rintro (⟨q,hq,e⟩ | ⟨q,hq,e⟩)
   ·have:=VQ hq;omega
   ·have:=VQ hq;omega
  ·rintro x ⟨q,hq,rfl⟩ y ⟨q',hq',rfl⟩ e
   have:=VQ hq;have:=VQ hq';omega
theorem ZtB {K:List (Int×Int)} {q:Int×Int} (h:q∈K) (hn:(K.map Prod.fst).Nodup):(K.find? fun x=>x.1==q.1)=some q:=by
 induction K with
 | nil=>cases h
 | cons x r ih=>
  simp only[Kn,KY] at hn;rcases Ke.1 h with rfl | h
  ·simp
  ·have aa:¬(x.1==q.1)=true:=by
    simp only[beq_iff_eq];intro e;exact hn.1 (KQ.2 ⟨q,h,e.symm⟩)
   rw[List.find?_cons_of_neg (by simpa using aa)];exact ih h hn.2
theorem ZrT {K:List (Int×Int)} {dn:List Int} {m ab:Int} (h:(m,ab)∈K) (hn:(K.map Prod.fst).Nodup) (hm:m∉dn) (ha:ab<0∨ab∈dn):okN K dn m=true:=by
 have:=ZtB h hn;simp only at this;unfold okN;rw[this];simp only[Kb,KH,KL,K5,Kj];exact⟨hm,ha⟩
theorem ZtC {K:List (Int×Int)} {dn:List Int} {m:Int} (h:okN K dn m=true):m∈K.map Prod.fst∧m∉dn:=by
 unfold okN at h;split at h
 ·rename_i q hq;have h1:=List.find?_some hq;have h2:=List.mem_of_find?_eq_some hq;simp only[beq_iff_eq] at h1;simp only[Kb,KH,KL] at h;exact⟨KQ.2 ⟨q,h2,h1⟩,h.1⟩
 ·cases h
theorem Zbg {K:List (Int×Int)}:∀ {a dn c:List Int},okS K dn (a++c)=(okS K dn a&&okS K (dn++a) c)
 | [],dn,c=>by simp[okS]
 | m :: a,dn,c=>by
  simp only[KN,okS];rw[Zbg (a:=a),Bool.and_assoc,KS,List.singleton_append]
theorem ZpK {K:List (Int×Int)}:∀ {s dn:List Int},okS K dn s=true→dn.Nodup→(dn++s).Nodup∧∀ m∈s,m∈K.map Prod.fst
 | [],dn,_,h=>by simpa using h
 | m :: s,dn,ho,h=>by
  simp only[okS,Kb] at ho;obtain⟨h1,h2⟩:=ZtC ho.1;have hd:(dn++[m]).Nodup:=by
   rw[Lw];exact⟨h,by simp,fun x hx y hy e=>by rw[KA.1 hy] at e;exact h2 (e ▸ hx)⟩
  obtain⟨k1,k2⟩:=ZpK ho.2 hd;rw[KS,List.singleton_append] at k1;exact⟨k1,fun x hx=>by
   rcases Ke.1 hx with rfl | hx
   ·exact h1
   ·exact k2 x hx⟩
theorem ZpL {α:Type} [DecidableEq α]:∀ {l m:List α},l.Nodup→(∀ x∈l,x∈m)→l.length≤m.length
 | [],m,_,_=>LZ _
 | x :: l,m,hn,hs=>by
  rw[KY] at hn;have hx:=hs x (by simp);have ih:=ZpL (l:=l) (m:=m.erase x) hn.2 fun y hy=>(List.mem_erase_of_ne (by rintro rfl;exact hn.1 hy)).2 (hs y (by simp[hy]));rw[List.length_erase_of_mem hx] at ih;have:=List.length_pos_of_mem hx;simp only[Ki];omega
theorem ZtD {α:Type} [DecidableEq α] {l m:List α} (hn:l.Nodup) (hs:∀ x∈l,x∈m) (hl:m.length≤l.length):∀ x∈m,x∈l:=fun x hx=>by
 by_cases h:x∈l
 ·exact h
 ·have:=ZpL (l:=x :: l) (m:=m) (KY.2 ⟨h,hn⟩) fun y hy=>by
   rcases Ke.1 hy with rfl | hy
   ·exact hx
   ·exact hs y hy
  simp only[Ki] at this;omega
theorem ZtE {b:BT} {s:List Int} (h:okS (kn b 0 (-1)) [] s=true) (hl:s.length=(kn b 0 (-1)).length):∀ q∈kn b 0 (-1),q.1∈s:=fun q hq=>by
 obtain⟨h1,h2⟩:=ZpK h Lh;exact ZtD (by simpa using h1) h2 (by simp[hl]) q.1 (KQ.2 ⟨q,hq,rfl⟩)
def Zbh (b:BT) (g:Box):List Box:=(plc b g.X g.Y g.W g.H).map L.Place.Box++wst b g.X g.Y g.W g.H
theorem ZdY {s:List Int}:∀ {b:BT} {n a:Int} {g:Box},(∀ q∈kn b n a,q.1∈s)→(XE s b n g).Perm (Zbh b g)
 | .waste,n,a,g,_=>by simp[XE,Zbh,plc,wst]
 | .pane i t,n,a,g,_=>by simp[XE,Zbh,plc,wst]
 | .cut d c l r,n,a,g,h=>by
  have hn:n∈s:=h (n,a) (by simp[kn]);have h1:=ZdY (b:=l) (n:=n+1) (a:=n) (g:=VR d c g) fun q hq=>h q (by simp[kn,hq]);have h2:=ZdY (b:=r) (n:=n+1+l.cnt) (a:=n) (g:=WA d c g) fun q hq=>h q (by simp[kn,hq]);simp only[XE,hn,Kg];refine(h1.append h2).trans ?_;unfold Zbh;have e:∀ A B C D:List Box,(A++B++(C++D)).Perm (A++C++(B++D)):=fun A B C D=>by
   rw[KS,KS];refine List.Perm.append_left A ?_;rw[← KS,← KS];exact List.Perm.append_right D List.perm_append_comm
  cases d
  ·simp only[VR,WA,plc,wst,Ka,Kf,KM];exact e _ _ _ _
  ·simp only[VR,WA,plc,wst,Kg,KM];exact e _ _ _ _
theorem ZdZ:∀ (b:BT) (n a:Int) (g:Box),(Zbh b g).length=(kn b n a).length+1
 | .waste,n,a,g=>rfl
 | .pane _ _,n,a,g=>rfl
 | .cut d c l r,n,a,g=>by
  have h1:=ZdZ l (n+1) n (VR d c g);have h2:=ZdZ r (n+1+l.cnt) n (WA d c g);unfold Zbh at h1 h2 ⊢;simp only[kn,Ki,Kk,Kt] at h1 h2 ⊢;cases d
  ·simp only[VR,WA,plc,wst,Ka,Kf,Kk] at h1 h2 ⊢;omega
  ·simp only[VR,WA,plc,wst,Kg,Kk] at h1 h2 ⊢;omega
theorem ZlT:∀ (b:BT) (n a:Int),b.cnt=2*(kn b n a).length+1
 | .waste,n,a=>rfl
 | .pane _ _,n,a=>rfl
 | .cut d c l r,n,a=>by
  have h1:=ZlT l (n+1) n;have h2:=ZlT r (n+1+l.cnt) n;simp only[kn,BT.cnt,Ki,Kk];omega
theorem ZhS {ps:List Pane} {b:BT} {g:Box} {s:List Int} (hf:Qd ps b g.W g.H=true) (hg:ZaW g) (ho:okS (kn b 0 (-1)) [] s=true) (hl:s.length=(kn b 0 (-1)).length):(goS b g [g] s).Perm (Zbh b g):=by
 have h:=(ZpX hf hg (Zl1 b 0) (t:=[g]) (by rw[ZpU]) ho).1;rw[Lz] at h;exact h.trans (ZdY (ZtE ho hl))
def X5:BT→Int
 | .cut _ _ l r=>if X5 l=X5 r then X5 l+1 else max (X5 l) (X5 r)
 | .waste=>0
 | .pane _ _=>0
def Q8:BT→Int→List Int
 | .cut _ _ l r,n=>if X5 r<X5 l then n :: (Q8 r (n+1+l.cnt)++Q8 l (n+1)) else n :: (Q8 l (n+1)++Q8 r (n+1+l.cnt))
 | .waste,_=>[]
 | .pane _ _,_=>[]
theorem UH:∀ b:BT,0≤X5 b∧X5 b≤b.cnt
 | .waste=>by simp[X5,BT.cnt]
 | .pane _ _=>by simp[X5,BT.cnt]
 | .cut _ _ l r=>by
  have h1:=UH l;have h2:=UH r;simp only[X5,BT.cnt];split<;>omega
theorem Ug:∀ (b:BT) (n a:Int),(Q8 b n).length=(kn b n a).length
 | .waste,n,a=>rfl
 | .pane _ _,n,a=>rfl
 | .cut d c l r,n,a=>by
  have h1:=Ug l (n+1) n;have h2:=Ug r (n+1+l.cnt) n;simp only[Q8,kn];split<;>(simp only[Ki,Kk];omega)
theorem J9:∀ {b:BT} {n m:Int},m∈Q8 b n→n≤m∧m<n+b.cnt
 | .waste,n,m,h=>by simp[Q8] at h
 | .pane _ _,n,m,h=>by simp[Q8] at h
 | .cut d c l r,n,m,h=>by
  have h' : m=n∨m∈Q8 l (n+1)∨m∈Q8 r (n+1+l.cnt):=by
   simp only[Q8] at h;split at h
   ·simp only[Ke,Kc] at h;rcases h with h | h | h<;>simp[h]
   ·simpa only[Ke,Kc] using h
  simp only[BT.cnt];rcases h' with h | h | h
  ·omega
  ·have:=J9 h;omega
  ·have:=J9 h;omega
theorem Zcb {K:List (Int×Int)} (hK:(K.map Prod.fst).Nodup):∀ {b:BT} {n a:Int} {dn:List Int},(∀ q∈kn b n a,q∈K)→(∀ m∈dn,m<n∨n+b.cnt≤m)→(a<0∨a∈dn)→okS K dn (Q8 b n)=true
 | .waste,n,a,dn,_,_,_=>rfl
 | .pane _ _,n,a,dn,_,_,_=>rfl
 | .cut d c l r,n,a,dn,hq,hd,ha=>by
  simp only[BT.cnt] at hd;have h0:okN K dn n=true:=ZrT (hq (n,a) (by simp[kn])) hK (fun h=>by have:=hd n h;omega) ha;have hl:∀ q∈kn l (n+1) n,q∈K:=fun q h=>hq q (by simp[kn,h]);have hr:∀ q∈kn r (n+1+l.cnt) n,q∈K:=fun q h=>hq q (by simp[kn,h]);simp only[Q8];split
  ·simp only[okS,h0,La];rw[Zbg,Kb];refine⟨Zcb hK hr (fun m hm=>?_) (.inr (by simp)),Zcb hK hl (fun m hm=>?_) (.inr (by simp))⟩
   ·rcases X6.1 hm with hm | rfl
    ·have:=hd m hm;omega
    ·omega
   ·rcases Kc.1 hm with hm | hm
    ·rcases X6.1 hm with hm | rfl
     ·have:=hd m hm;omega
     ·omega
    ·have:=J9 hm;omega
  ·simp only[okS,h0,La];rw[Zbg,Kb];refine⟨Zcb hK hl (fun m hm=>?_) (.inr (by simp)),Zcb hK hr (fun m hm=>?_) (.inr (by simp))⟩
   ·rcases X6.1 hm with hm | rfl
    ·have:=hd m hm;omega
    ·omega
   ·rcases Kc.1 hm with hm | hm
    ·rcases X6.1 hm with hm | rfl
     ·have:=hd m hm;omega
     ·omega
    ·have:=J9 hm;omega
theorem ZpM (b:BT):okS (kn b 0 (-1)) [] (Q8 b 0)=true∧(Q8 b 0).length=(kn b 0 (-1)).length:=
 ⟨Zcb (Zew b 0 (-1)) (a:=-1) (fun _ h=>h) (fun _ h=>by cases h) (.inl (by decide)),Ug b 0 (-1)⟩
theorem ZlU {K:List (Int×Int)} (hK:(K.map Prod.fst).Nodup):∀ {b:BT} {n a:Int} {dn:List Int},(∀ q∈kn b n a,q∈K)→(∀ m∈dn,m<n∨n+b.cnt≤m)→(a<0∨a∈dn)→okS K dn ((kn b n a).map Prod.fst)=true
 | .waste,n,a,dn,_,_,_=>rfl
 | .pane _ _,n,a,dn,_,_,_=>rfl
 | .cut d c l r,n,a,dn,hq,hd,ha=>by
  simp only[BT.cnt] at hd;have h0:okN K dn n=true:=ZrT (hq (n,a) (by simp[kn])) hK (fun h=>by have:=hd n h;omega) ha;have hl:∀ q∈kn l (n+1) n,q∈K:=fun q h=>hq q (by simp[kn,h]);have hr:∀ q∈kn r (n+1+l.cnt) n,q∈K:=fun q h=>hq q (by simp[kn,h]);simp only[kn,Kn,KM,okS,h0,La];rw[Zbg,Kb];refine⟨ZlU hK hl (fun m hm=>?_) (.inr (by simp)),ZlU hK hr (fun m hm=>?_) (.inr (by simp))⟩
  ·rcases X6.1 hm with hm | rfl
   ·have:=hd m hm;omega
   ·omega
  ·rcases Kc.1 hm with hm | hm
   ·rcases X6.1 hm with hm | rfl
    ·have:=hd m hm;omega
    ·omega
   ·obtain⟨q,aa,rfl⟩:=KQ.1 hm;have:=VQ aa;omega
theorem ZrU (b:BT):okS (kn b 0 (-1)) [] ((kn b 0 (-1)).map Prod.fst)=true:=ZlU (Zew b 0 (-1)) (fun _ h=>h) (fun _ h=>by cases h) (.inl (by decide))
theorem XS:∀ (b:BT),b.cnt≤1000→Zi Xs Ms Xm [.d b.plan.enc] []=some ((.d (J (X5 b))),[])
 | .waste,hb=>by
  simp only[BT.plan,Zh.enc_mk,X5];refine cE ?_;simp +contextual -implicitDefEqProofs (maxSteps:=10^7) only[go_sem,seval,↓gZ,VE,Zj]
 | .pane i t,hb=>by
  simp only[BT.plan,Zh.enc_mk,X5];refine cE ?_;simp +contextual -implicitDefEqProofs (maxSteps:=10^7) only[go_sem,seval,↓gZ,VE,Zj]
 | .cut d a l r,hb=>by
  simp only[BT.cnt] at hb;have e1:=XS l (by omega);have e2:=XS r (by omega);have b1:=UH l;have b2:=UH r;have w1:=wi (X5 r+1) (by omega) (by omega);have w2:=wi (X5 l+1) (by omega) (by omega);have hd:(Yx d=2∨Yx d=3)=True:=eq_true (by cases d<;>simp[Yx]);simp only[BT.plan,Zh.enc_mk,X5];by_cases h:X5 l=X5 r
  ·rw[Km h];refine cE ?_;simp +contextual -implicitDefEqProofs (maxSteps:=10^7) only[go_sem,seval,↓gZ,VE,Zj,hd,e1,e2,h,w1,w2]
  ·rw[Kl h];refine cE ?_;simp +contextual -implicitDefEqProofs (maxSteps:=10^7) only[go_sem,seval,↓gZ,VE,Zj,hd,e1,e2,h]
def abV (b:BT) (xs:List D) (n:Int):AV×List Zg:=match b with
 | .cut d c l r=>(.own 1,[.gone,.row 1 (xs++(Q8 (.cut d c l r) n).map Qp) true false])
 | _=>(.own 0,[.row 1 xs true false])
theorem XH (b:BT):(∃ d c l r,b=.cut d c l r)∨((∀ n,Q8 b n=[])∧∀ xs n,abV b xs n=(.own 0,[.row 1 xs true false])):=by
 cases b with
 | cut d' c' l' r'=>exact .inl ⟨_,_,_,_,rfl⟩
 | _=>exact .inr ⟨fun _=>rfl,fun _ _=>rfl⟩
theorem Wd {b:BT} {xs:List D} {n:Int} (h:∃ d c l r,b=.cut d c l r):abV b xs n=(.own 1,[.gone,.row 1 (xs++(Q8 b n).map Qp) true false]):=by
 obtain⟨d,c,l,r,rfl⟩:=h;rfl
theorem Xp:∀ (b:BT) (xs:List D) (n:Int),0≤n→n+b.cnt≤255→xs.length+b.cnt≤1000→Zi Xs Ms Z0 [.own 0,.d b.plan.enc,(.d (J n))] [.row 1 xs true false]=some (abV b xs n)
 | .waste,xs,n,h0,h1,h2=>by
  simp only[BT.plan,Zh.enc_mk,abV];refine cE ?_;simp +contextual -implicitDefEqProofs (maxSteps:=10^7) only[go_sem,seval,↓gZ,ZK,Zj]
 | .pane i t,xs,n,h0,h1,h2=>by
  simp only[BT.plan,Zh.enc_mk,abV];refine cE ?_;simp +contextual -implicitDefEqProofs (maxSteps:=10^7) only[go_sem,seval,↓gZ,ZK,Zj]
 | .cut d c l r,xs,n,h0,h1,h2=>by
  simp only[BT.cnt] at h1 h2;have w1:=wi (n+1) (by omega) (by omega);have w2:=wi (n+1+l.cnt) (by omega) (by omega);have hr:(xs.length+1)*8≤140737488355328∧xs.length≤140737488355327:=by omega
  have l1:=Ug l (n+1) n;have l2:=Ug r (n+1+l.cnt) n;have k1:=Wz l (n+1) n;have k2:=Wz r (n+1+l.cnt) n;have es:=XR l.plan;rw[QN] at es;have hz:=Z1 255 l;have e4:Zl 255 (some l)=(l.cnt:Int):=by omega
  rw[e4] at es;have t1:=XS l (by omega);have t2:=XS r (by omega);have hd:(Yx d=2∨Yx d=3)=True:=eq_true (by cases d<;>simp[Yx]);obtain⟨q1,q2,q3,q4,q5,ag⟩:∃ a b c d e,l.plan=.mk a b c d e:=by cases hq:l.plan;exact⟨_,_,_,_,_,rfl⟩
  obtain⟨p1,p2,p3,p4,p5,ah⟩:∃ a b c d e,r.plan=.mk a b c d e:=by cases hq:r.plan;exact⟨_,_,_,_,_,rfl⟩
  by_cases h:X5 r<X5 l
  ·have e1:=Xp r (xs++[J n]) (n+1+l.cnt) (by omega) (by omega) (by simp only[Kk,Ki,KD];omega);have e2:=Xp l (xs++[J n]++(Q8 r (n+1+l.cnt)).map Qp) (n+1) (by omega) (by omega) (by simp only[Kk,Ki,KD,Kt];omega);simp only[ag,ah,Zh.enc_mk] at es t1 t2 e1 e2;simp only[BT.plan,Zh.enc_mk,ag,ah,Kn,KB,abV,Q8,h,Kg];rcases XH r with ad | ⟨aa,ae⟩
   ·rw[Wd ad] at e1;rcases XH l with hl | ⟨ab,af⟩
    ·rw[Wd hl] at e2;refine cE ?_;simp +contextual -implicitDefEqProofs (maxSteps:=10^7) only[go_sem,seval,↓gZ,ZK,Zj,hd,hr,w1,w2,es,t1,t2,h,e1,e2];try (simp[Qp];done)
    ·rw[af] at e2;rw[ab];refine cE ?_;simp +contextual -implicitDefEqProofs (maxSteps:=10^7) only[go_sem,seval,↓gZ,ZK,Zj,hd,hr,w1,w2,es,t1,t2,h,e1,e2];try (simp[Qp];done)
   ·rw[ae] at e1;rw[aa,KB,K6] at e2;rw[aa];rcases XH l with hl | ⟨ab,af⟩
    ·rw[Wd hl] at e2;refine cE ?_;simp +contextual -implicitDefEqProofs (maxSteps:=10^7) only[go_sem,seval,↓gZ,ZK,Zj,hd,hr,w1,w2,es,t1,t2,h,e1,e2];try (simp[Qp];done)
    ·rw[af] at e2;rw[ab];refine cE ?_;simp +contextual -implicitDefEqProofs (maxSteps:=10^7) only[go_sem,seval,↓gZ,ZK,Zj,hd,hr,w1,w2,es,t1,t2,h,e1,e2];try (simp[Qp];done)
  ·have e1:=Xp l (xs++[J n]) (n+1) (by omega) (by omega) (by simp only[Kk,Ki,KD];omega);have e2:=Xp r (xs++[J n]++(Q8 l (n+1)).map Qp) (n+1+l.cnt) (by omega) (by omega) (by simp only[Kk,Ki,KD,Kt];omega);simp only[ag,ah,Zh.enc_mk] at es t1 t2 e1 e2;simp only[BT.plan,Zh.enc_mk,ag,ah,Kn,KB,abV,Q8,h,Kf];rcases XH l with hl | ⟨ab,af⟩
   ·rw[Wd hl] at e1;rcases XH r with ad | ⟨aa,ae⟩
    ·rw[Wd ad] at e2;refine cE ?_;simp +contextual -implicitDefEqProofs (maxSteps:=10^7) only[go_sem,seval,↓gZ,ZK,Zj,hd,hr,w1,w2,es,t1,t2,h,e1,e2];try (simp[Qp];done)
    ·rw[ae] at e2;rw[aa];refine cE ?_;simp +contextual -implicitDefEqProofs (maxSteps:=10^7) only[go_sem,seval,↓gZ,ZK,Zj,hd,hr,w1,w2,es,t1,t2,h,e1,e2];try (simp[Qp];done)
   ·rw[af] at e1;rw[ab,KB,K6] at e2;rw[ab];rcases XH r with ad | ⟨aa,ae⟩
    ·rw[Wd ad] at e2;refine cE ?_;simp +contextual -implicitDefEqProofs (maxSteps:=10^7) only[go_sem,seval,↓gZ,ZK,Zj,hd,hr,w1,w2,es,t1,t2,h,e1,e2];try (simp[Qp];done)
    ·rw[ae] at e2;rw[aa];refine cE ?_;simp +contextual -implicitDefEqProofs (maxSteps:=10^7) only[go_sem,seval,↓gZ,ZK,Zj,hd,hr,w1,w2,es,t1,t2,h,e1,e2];try (simp[Qp];done)
theorem Zkb (b:BT) (h2:b.cnt≤255):Zi Xs Ms Z0 [.nil,.d b.plan.enc,(.d (J 0))] []=some (.own 0,[.row 1 ((Q8 b 0).map Qp) true false]):=by
 cases b with
 | waste=>
  simp only[BT.plan,Zh.enc_mk,Q8];refine cE ?_;simp +contextual -implicitDefEqProofs (maxSteps:=10^7) only[go_sem,seval,↓gZ,ZK,Zj]
 | pane i t=>
  simp only[BT.plan,Zh.enc_mk,Q8];refine cE ?_;simp +contextual -implicitDefEqProofs (maxSteps:=10^7) only[go_sem,seval,↓gZ,ZK,Zj]
 | cut d c l r=>
  simp only[BT.cnt] at h2;have hr:1*8≤Zy∧1≤Zy:=by unfold Zy;omega
  have w2:=wi (1+(l.cnt:Int)) (by omega) (by omega);have l1:=Ug l 1 0;have l2:=Ug r (1+l.cnt) 0;have k1:=Wz l 1 0;have k2:=Wz r (1+l.cnt) 0;have es:=XR l.plan;rw[QN] at es;have hz:=Z1 255 l;have e4:Zl 255 (some l)=(l.cnt:Int):=by omega
  rw[e4] at es;have t1:=XS l (by omega);have t2:=XS r (by omega);have hd:(Yx d=2∨Yx d=3)=True:=eq_true (by cases d<;>simp[Yx]);obtain⟨q1,q2,q3,q4,q5,ag⟩:∃ a b c d e,l.plan=.mk a b c d e:=by cases hq:l.plan;exact⟨_,_,_,_,_,rfl⟩
  obtain⟨p1,p2,p3,p4,p5,ah⟩:∃ a b c d e,r.plan=.mk a b c d e:=by cases hq:r.plan;exact⟨_,_,_,_,_,rfl⟩
  by_cases h:X5 r<X5 l
  ·have e1:=Xp r [J 0] (1+l.cnt) (by omega) (by omega) (by simp only[Ki,KD];omega);have e2:=Xp l (J 0 :: (Q8 r (1+l.cnt)).map Qp) 1 (by omega) (by omega) (by simp only[Ki,Kt];omega);simp only[ag,ah,Zh.enc_mk] at es t1 t2 e1 e2;simp only[BT.plan,Zh.enc_mk,ag,ah,Kn,KB,Q8,h,Kg,Int.zero_add];rcases XH r with ad | ⟨aa,ae⟩
   ·rw[Wd ad] at e1;rcases XH l with hl | ⟨ab,af⟩
    ·rw[Wd hl] at e2;refine cE ?_;simp +contextual -implicitDefEqProofs (maxSteps:=10^7) only[go_sem,seval,↓gZ,ZK,Zj,hd,hr,w2,es,t1,t2,h,e1,e2];try (simp[Qp];done)
    ·rw[af] at e2;rw[ab];refine cE ?_;simp +contextual -implicitDefEqProofs (maxSteps:=10^7) only[go_sem,seval,↓gZ,ZK,Zj,hd,hr,w2,es,t1,t2,h,e1,e2];try (simp[Qp];done)
   ·rw[ae] at e1;rw[aa,KB] at e2;rw[aa];rcases XH l with hl | ⟨ab,af⟩
    ·rw[Wd hl] at e2;refine cE ?_;simp +contextual -implicitDefEqProofs (maxSteps:=10^7) only[go_sem,seval,↓gZ,ZK,Zj,hd,hr,w2,es,t1,t2,h,e1,e2];try (simp[Qp];done)
    ·rw[af] at e2;rw[ab];refine cE ?_;simp +contextual -implicitDefEqProofs (maxSteps:=10^7) only[go_sem,seval,↓gZ,ZK,Zj,hd,hr,w2,es,t1,t2,h,e1,e2];try (simp[Qp];done)
  ·have e1:=Xp l [J 0] 1 (by omega) (by omega) (by simp only[Ki,KD];omega);have e2:=Xp r (J 0 :: (Q8 l 1).map Qp) (1+l.cnt) (by omega) (by omega) (by simp only[Ki,Kt];omega);simp only[ag,ah,Zh.enc_mk] at es t1 t2 e1 e2;simp only[BT.plan,Zh.enc_mk,ag,ah,Kn,KB,Q8,h,Kf,Int.zero_add];rcases XH l with hl | ⟨ab,af⟩
   ·rw[Wd hl] at e1;rcases XH r with ad | ⟨aa,ae⟩
    ·rw[Wd ad] at e2;refine cE ?_;simp +contextual -implicitDefEqProofs (maxSteps:=10^7) only[go_sem,seval,↓gZ,ZK,Zj,hd,hr,w2,es,t1,t2,h,e1,e2];try (simp[Qp];done)
    ·rw[ae] at e2;rw[aa];refine cE ?_;simp +contextual -implicitDefEqProofs (maxSteps:=10^7) only[go_sem,seval,↓gZ,ZK,Zj,hd,hr,w2,es,t1,t2,h,e1,e2];try (simp[Qp];done)
   ·rw[af] at e1;rw[ab,KB] at e2;rw[ab];rcases XH r with ad | ⟨aa,ae⟩
    ·rw[Wd ad] at e2;refine cE ?_;simp +contextual -implicitDefEqProofs (maxSteps:=10^7) only[go_sem,seval,↓gZ,ZK,Zj,hd,hr,w2,es,t1,t2,h,e1,e2];try (simp[Qp];done)
    ·rw[ae] at e2;rw[aa];refine cE ?_;simp +contextual -implicitDefEqProofs (maxSteps:=10^7) only[go_sem,seval,↓gZ,ZK,Zj,hd,hr,w2,es,t1,t2,h,e1,e2];try (simp[Qp];done)
theorem ZhT (b:BT) (hc:b.cnt≤255):Zi Xs Ms VZ [.d b.plan.enc] []=some (.own 0,[.row 1 ((Q8 b 0).map Qp) true false]):=by
 have hs:=XR b.plan;rw[QN] at hs;have hz:=Z1 255 b;have e4:Zl 255 (some b)=(b.cnt:Int):=by omega
 have h0:¬(b.cnt:Int)<0:=by omega
 rw[e4] at hs;have e1:=Zkb b hc;obtain⟨q1,q2,q3,q4,q5,aa⟩:∃ a b' c d e,b.plan=.mk a b' c d e:=by cases hq:b.plan;exact⟨_,_,_,_,_,rfl⟩
 rw[aa,Zh.enc_mk] at hs e1 ⊢;refine cE ?_;simp +contextual -implicitDefEqProofs (maxSteps:=10^7) only[go_sem,seval,↓gZ,Zav,hs,h0,e1]
theorem Zhg (p:Zh) (s:List Int) (hs:s.length≤1048576):Zi Xs Ms Y8 [.d p.enc,.d (.sl (s.map Qp))] []=some ((.d (.bool (wfP p&&(decide (s.length=(Zd2 p).length)&&okS (Zd2 p) [] s)))),[]):=by
 have e1:=Jc p;have hk:(∀ q∈Zd2 p,0≤q.1∧q.1<255∧q.2<255)∧(Zd2 p).length≤255:=by
  unfold Zd2;split
  ·rename_i b _;split
   ·rename_i hc;exact⟨Znd hc,Le (Wz b 0 (-1)) hc⟩
   ·exact⟨fun q hq=>(by cases hq),LZ _⟩
  ·exact⟨fun q hq=>(by cases hq),LZ _⟩
 have e2:=ZaY (Zd2 p) s hk.1 hk.2 hs;obtain⟨o,a,q,t,ks⟩:=p;rw[Zh.enc_mk] at e1 ⊢;generalize Zd2 (.mk o a q t ks)=K at *;cases hw:wfP (.mk o a q t ks) with
 | false=>
  rw[hw] at e1;refine cE ?_;simp +contextual -implicitDefEqProofs (maxSteps:=10^7) only[go_sem,seval,↓gZ,Vd,e1]
 | true=>
  rw[hw] at e1;by_cases hl:s.length=K.length
  ·have aa : (s.length:Int)=(K.length:Int):=by omega
   rw[Kw hl,La,La];refine cE ?_;simp +contextual -implicitDefEqProofs (maxSteps:=10^7) only[go_sem,seval,↓gZ,Vd,e1,aa,e2,hl]
  ·have aa : ¬(s.length:Int)=(K.length:Int):=by omega
   rw[Kq hl,La,L6];refine cE ?_;simp +contextual -implicitDefEqProofs (maxSteps:=10^7) only[go_sem,seval,↓gZ,Vd,e1,aa,hl]
theorem ZhU (a b:List Box) (h:∀ x∈a,x∈b) (hl:a.length=b.length) (hb:b.length≤1048576):Zi Xs Ms V0 [(.d (.sl (a.map Box.enc))),(.d (.sl (b.map Box.enc)))] []=some ((.d (.bool true)),[]):=by
 refine cE ?_;simp +contextual -implicitDefEqProofs (maxSteps:=10^7) only[go_sem,seval,↓gZ,Zaw];refine LO (α:=Nat) (fun i=>[(5,.d (J (i:Int)))]) (fun _=>[]) (fun i=>i≤a.length) (fun i=>a.length-i) 0 (by omega) ?_;intro i hi ih;by_cases aa:i<a.length
 ·obtain⟨x,hx⟩:=ZY aa;have hw:=Zn (k:=i) (by omega);have af:=h x (Kp hx);obtain⟨X,Y,W,H⟩:=x;simp +contextual -implicitDefEqProofs (maxSteps:=10^7) only[go_sem,seval,↓gZ,hx,aa,hw];refine Qw Xs Ms (st0:=?st1) (α:=Nat) (fun j=>[(7,.d (J (j:Int))),(6,(.d (.bool (decide ((⟨X,Y,W,H⟩:Box)∈b.take j)))))]) (fun _=>[]) (fun j=>j≤b.length) (fun j=>b.length-j) 0 ?hc2 (by omega) ?h02 ?step2
  case hc2=>simp +contextual -implicitDefEqProofs (maxSteps:=10^7) only[go_sem,seval,↓gZ]<;>exact rfl
  case h02=>simp only[L7,LB,decide_false];rfl
  case step2=>
   intro j hj ad;by_cases ab:j<b.length
   ·obtain⟨y,hy⟩:=ZY ab;have ae:=Zn (k:=j) (by omega);have ht:decide ((⟨X,Y,W,H⟩:Box)∈b.take (j+1))=(decide ((⟨X,Y,W,H⟩:Box)∈b.take j) || decide ((⟨X,Y,W,H⟩:Box)=y)):=by
     rw[← Kak];apply decide_eq_decide.2;rw[KC,hy];simp
    obtain⟨X',Y',W',H'⟩:=y;simp only[Box.mk.injEq] at ht;by_cases hm:(⟨X,Y,W,H⟩:Box)∈b.take j
    ·rw[Kw hm,Bool.true_or] at ht;rw[Kw hm] at *;simp +contextual -implicitDefEqProofs (maxSteps:=10^7) only[go_sem,seval,↓gZ,hy,ab,ae,hx,aa];refine ad (j+1) _ (by omega) (by omega) ?_;simp +contextual -implicitDefEqProofs (maxSteps:=10^7) only[go_sem,seval,↓gZ,ht]
    ·rw[Kq hm,Bool.false_or] at ht;rw[Kq hm] at *;simp +contextual -implicitDefEqProofs (maxSteps:=10^7) only[go_sem,seval,↓gZ,hy,ab,ae,hx,aa];refine ad (j+1) _ (by omega) (by omega) ?_;simp +contextual -implicitDefEqProofs (maxSteps:=10^7) only[go_sem,seval,↓gZ,ht,← L2]
   ·have:j=b.length:=by omega
    subst this;rw[Ll,Kw af];simp +contextual -implicitDefEqProofs (maxSteps:=10^7) only[go_sem,seval,↓gZ,hw];refine ih (i+1) _ (by omega) (by omega) ?_;simp +contextual -implicitDefEqProofs (maxSteps:=10^7) only[go_sem,seval,↓gZ]
 ·have:i=a.length:=by omega
  subst this;have ag : (a.length:Int)=(b.length:Int):=by omega
  simp +contextual -implicitDefEqProofs (maxSteps:=10^7) only[go_sem,seval,↓gZ,ag]
end Go.Proofs.Ytefabmohhbhlfaa
namespace Go.Proofs.Ytefabmohhbhlfaa
open Go Go.Abs Go.Abs.E Go.Abs.L
open Nat (reduceMul reduceSub reduceLeDiff reduceEqDiff)
open Int (reduceLE reduceEq reduceToNat reduceNeg)
set_option linter.unusedSimpArgs false
set_option linter.unusedVariables false
set_option maxRecDepth 20000
set_option maxHeartbeats 4000000
def QS (K:List (Int×Int)) (n:Int):Nat:=(K.filter fun q=>q.2==n).length
def wts (K:List (Int×Int)):Int→List Int→List Int
 | _,[]=>[]
 | w,n :: r=>w :: wts K (w-1+QS K n) r
def dlt (K:List (Int×Int)):List Int→Int
 | []=>0
 | n :: r=>(QS K n:Int)-1+dlt K r
theorem ZhV (K:List (Int×Int)):∀ (s r:List Int) (w:Int),wts K w (s++r)=wts K w s++wts K (w+dlt K s) r
 | [],r,w=>by simp[wts,dlt]
 | n :: s,r,w=>by
  simp only[KN,wts,dlt,ZhV K s r];congr 3;omega
theorem Zd0 (K:List (Int×Int)):∀ (s r:List Int),dlt K (s++r)=dlt K s+dlt K r
 | [],r=>by simp[dlt]
 | n :: s,r=>by simp only[KN,dlt,Zd0 K s r];omega
def isC:BT→Nat
 | .cut _ _ _ _=>1
 | .waste=>0
 | .pane _ _=>0
theorem Wy (A B:List (Int×Int)) (m:Int):QS (A++B) m=QS A m+QS B m:=by simp[QS]
theorem Jt (q:Int×Int) (B:List (Int×Int)) (m:Int):QS (q :: B) m=(if q.2=m then 1 else 0)+QS B m:=by
 unfold QS;by_cases h:q.2=m
 ·simp[h];omega
 ·simp[h]
theorem Zbi {B:List (Int×Int)} {m:Int} (h:∀ q∈B,q.2≠m):QS B m=0:=by
 unfold QS;rw[List.length_eq_zero_iff,List.filter_eq_nil_iff];intro q hq;simpa using h q hq
theorem ZkO:∀ (b:BT) (n a:Int),a<n→QS (kn b n a) a=isC b
 | .waste,n,a,_=>rfl
 | .pane _ _,n,a,_=>rfl
 | .cut d c l r,n,a,h=>by
  rw[kn,Jt,Wy,Km rfl,Zbi,Zbi]
  ·rfl
  ·intro q hq;have:=VQ hq;omega
  ·intro q hq;have:=VQ hq;omega
theorem ZtF {d:Bool} {c:Int} {l r:BT} {n a m:Int} (ha:a<n) (h1:n+1≤m) (h2:m<n+1+l.cnt):QS (kn (.cut d c l r) n a) m=QS (kn l (n+1) n) m:=by
 rw[kn,Jt,Wy,Kl (by simp only;omega),Zbi (B:=kn r (n+1+l.cnt) n)]
 ·omega
 ·intro q hq;have:=VQ hq;omega
theorem ZtG {d:Bool} {c:Int} {l r:BT} {n a m:Int} (ha:a<n) (h1:n+1+l.cnt≤m) (h2:m<n+1+l.cnt+r.cnt):QS (kn (.cut d c l r) n a) m=QS (kn r (n+1+l.cnt) n) m:=by
 rw[kn,Jt,Wy,Kl (by simp only;omega),Zbi (B:=kn l (n+1) n)]
 ·omega
 ·intro q hq;have:=VQ hq;omega
theorem ZtH {d:Bool} {c:Int} {l r:BT} {n a:Int} (ha:a<n):QS (kn (.cut d c l r) n a) n=isC l+isC r:=by
 rw[kn,Jt,Wy,Kl (by simp only;omega),ZkO l (n+1) n (by omega),ZkO r (n+1+l.cnt) n (by omega)];omega
theorem ZhW {b:BT}:isC b=1↔1≤X5 b:=by
 cases b with
 | cut d c l r=>
  have h1:=UH l;have h2:=UH r;simp only[isC,X5];split<;>simp<;>omega
 | _=>simp[isC,X5]
def hiL:List Int→Int
 | []=>0
 | x :: r=>max (hiL r) x
def UW:List Int→Int
 | []=>0
 | x :: r=>x+UW r
theorem ZqD {l m:List Int} (h:l.Perm m):UW l=UW m:=by
 induction h with
 | nil=>rfl
 | cons x _ ih=>simp only[UW,ih]
 | swap x y l=>simp only[UW];omega
 | trans _ _ h1 h2=>exact h1.trans h2
end Go.Proofs.Ytefabmohhbhlfaa
