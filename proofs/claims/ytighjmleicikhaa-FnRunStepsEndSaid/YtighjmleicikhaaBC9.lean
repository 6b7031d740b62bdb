/- Own text. -/
import Derived.Test.YtighjmleicikhaaBCode
import Derived.Test.YtighjmleicikhaaAbsParts
import Derived.Test.YtighjmleicikhaaBC6
import Derived.Test.YtighjmleicikhaaAbsOkD
namespace Go.Proofs.Ytighjmleicikhaa
open Go Go.Abs Go.Abs.E Go.Abs.L
open Nat (reduceMul reduceSub reduceLeDiff reduceEqDiff)
open Int (reduceLE reduceEq reduceToNat reduceNeg)
set_option linter.unusedSimpArgs false
set_option linter.unusedVariables false
set_option maxRecDepth 20000
set_option maxHeartbeats 4000000
theorem ZbH:∀ (b:BT) (n a:Int),((kn b n a).map Prod.fst).Nodup
 | .waste,n,a=>by simp[kn]
 | .pane _ _,n,a=>by simp[kn]
 | .cut d c l r,n,a=>by
  have h1:=ZbH l (n+1) n;have h2:=ZbH r (n+1+l.cnt) n;simp only[kn,Km,Lf,KP,Kd,KU,Ls];refine⟨?_,h1,h2,?_⟩
  ·rintro (⟨q,hq,e⟩ | ⟨q,hq,e⟩)
   ·have:=Jc hq;omega
   ·have:=Jc hq;omega
  ·rintro x ⟨q,hq,rfl⟩ y ⟨q',hq',rfl⟩ e
   have:=Jc hq;have:=Jc hq';omega
theorem ZqS {K:List (Int×Int)} {q:Int×Int} (h:q∈K) (hn:(K.map Prod.fst).Nodup):(K.find? fun x=>x.1==q.1)=some q:=by
 induction K with
 | nil=>cases h
 | cons x r ih=>
  simp only[Km,KP] at hn;rcases Ke.1 h with rfl | h
  ·simp
  ·have aa:¬(x.1==q.1)=true:=by
    simp only[beq_iff_eq];intro e;exact hn.1 (KU.2 ⟨q,h,e.symm⟩)
   rw[List.find?_cons_of_neg (by simpa using aa)];exact ih h hn.2
theorem ZpP {K:List (Int×Int)} {dn:List Int} {m ab:Int} (h:(m,ab)∈K) (hn:(K.map Prod.fst).Nodup) (hm:m∉dn) (ha:ab<0∨ab∈dn):okN K dn m=true:=by
 have:=ZqS h hn;simp only at this;unfold okN;rw[this];simp only[Kb,KF,KC,K3,Kk];exact⟨hm,ha⟩
theorem ZqT {K:List (Int×Int)} {dn:List Int} {m:Int} (h:okN K dn m=true):m∈K.map Prod.fst∧m∉dn:=by
 unfold okN at h;split at h
 ·rename_i q hq;have h1:=List.find?_some hq;have h2:=List.mem_of_find?_eq_some hq;simp only[beq_iff_eq] at h1;simp only[Kb,KF,KC] at h;exact⟨KU.2 ⟨q,h2,h1⟩,h.1⟩
 ·cases h
theorem ZaQ {K:List (Int×Int)}:∀ {a dn c:List Int},okS K dn (a++c)=(okS K dn a&&okS K (dn++a) c)
 | [],dn,c=>by simp[okS]
 | m :: a,dn,c=>by
  simp only[KV,okS];rw[ZaQ (a:=a),Bool.and_assoc,Kw,List.singleton_append]
theorem Zkg {K:List (Int×Int)}:∀ {s dn:List Int},okS K dn s=true→dn.Nodup→(dn++s).Nodup∧∀ m∈s,m∈K.map Prod.fst
 | [],dn,_,h=>by simpa using h
 | m :: s,dn,ho,h=>by
  simp only[okS,Kb] at ho;obtain⟨h1,h2⟩:=ZqT ho.1;have hd:(dn++[m]).Nodup:=by
   rw[Ls];exact⟨h,by simp,fun x hx y hy e=>by rw[KI.1 hy] at e;exact h2 (e ▸ hx)⟩
  obtain⟨k1,k2⟩:=Zkg ho.2 hd;rw[Kw,List.singleton_append] at k1;exact⟨k1,fun x hx=>by
   rcases Ke.1 hx with rfl | hx
   ·exact h1
   ·exact k2 x hx⟩
theorem ZfQ {α:Type} [DecidableEq α]:∀ {l m:List α},l.Nodup→(∀ x∈l,x∈m)→l.length≤m.length
 | [],m,_,_=>LA _
 | x :: l,m,hn,hs=>by
  rw[KP] at hn;have hx:=hs x (by simp);have ih:=ZfQ (l:=l) (m:=m.erase x) hn.2 fun y hy=>(List.mem_erase_of_ne (by rintro rfl;exact hn.1 hy)).2 (hs y (by simp[hy]));rw[List.length_erase_of_mem hx] at ih;have:=List.length_pos_of_mem hx;simp only[Ki];omega
theorem ZqU {α:Type} [DecidableEq α] {l m:List α} (hn:l.Nodup) (hs:∀ x∈l,x∈m) (hl:m.length≤l.length):∀ x∈m,x∈l:=fun x hx=>by
 by_cases h:x∈l
 ·exact h
 ·have:=ZfQ (l:=x :: l) (m:=m) (KP.2 ⟨h,hn⟩) fun y hy=>by
   rcases Ke.1 hy with rfl | hy
   ·exact hx
   ·exact hs y hy
  simp only[Ki] at this;omega
theorem ZqV {b:BT} {s:List Int} (h:okS (kn b 0 (-1)) [] s=true):s.length≤(kn b 0 (-1)).length:=by
 obtain⟨h1,h2⟩:=Zkg h K2;have:=ZfQ (by simpa using h1) h2;simpa using this
theorem ZqW {b:BT} {s:List Int} (h:okS (kn b 0 (-1)) [] s=true) (hl:s.length=(kn b 0 (-1)).length):∀ q∈kn b 0 (-1),q.1∈s:=fun q hq=>by
 obtain⟨h1,h2⟩:=Zkg h K2;exact ZqU (by simpa using h1) h2 (by simp[hl]) q.1 (KU.2 ⟨q,hq,rfl⟩)
def VQ (b:BT) (g:Box):List Box:=(plc b g.X g.Y g.W g.H).map L.Place.Box++wst b g.X g.Y g.W g.H
theorem Zc5 {s:List Int}:∀ {b:BT} {n a:Int} {g:Box},(∀ q∈kn b n a,q.1∈s)→(Xg s b n g).Perm (VQ b g)
 | .waste,n,a,g,_=>by simp[Xg,VQ,plc,wst]
 | .pane i t,n,a,g,_=>by simp[Xg,VQ,plc,wst]
 | .cut d c l r,n,a,g,h=>by
  have hn:n∈s:=h (n,a) (by simp[kn]);have h1:=Zc5 (b:=l) (n:=n+1) (a:=n) (g:=XL d c g) fun q hq=>h q (by simp[kn,hq]);have h2:=Zc5 (b:=r) (n:=n+1+l.cnt) (a:=n) (g:=X5 d c g) fun q hq=>h q (by simp[kn,hq]);simp only[Xg,hn,Kh];refine(h1.append h2).trans ?_;unfold VQ;have e:∀ A B C D:List Box,(A++B++(C++D)).Perm (A++C++(B++D)):=fun A B C D=>by
   rw[Kw,Kw];refine List.Perm.append_left A ?_;rw[← Kw,← Kw];exact List.Perm.append_right D List.perm_append_comm
  cases d
  ·simp only[XL,X5,plc,wst,Ka,Kf,Lf];exact e _ _ _ _
  ·simp only[XL,X5,plc,wst,Kh,Lf];exact e _ _ _ _
theorem Zc6:∀ (b:BT) (n a:Int) (g:Box),(VQ b g).length=(kn b n a).length+1
 | .waste,n,a,g=>rfl
 | .pane _ _,n,a,g=>rfl
 | .cut d c l r,n,a,g=>by
  have h1:=Zc6 l (n+1) n (XL d c g);have h2:=Zc6 r (n+1+l.cnt) n (X5 d c g);unfold VQ at h1 h2 ⊢;simp only[kn,Ki,Kg,KG] at h1 h2 ⊢;cases d
  ·simp only[XL,X5,plc,wst,Ka,Kf,Kg] at h1 h2 ⊢;omega
  ·simp only[XL,X5,plc,wst,Kh,Kg] at h1 h2 ⊢;omega
theorem Zc7:∀ (b:BT) (n a:Int),b.cnt=2*(kn b n a).length+1
 | .waste,n,a=>rfl
 | .pane _ _,n,a=>rfl
 | .cut d c l r,n,a=>by
  have h1:=Zc7 l (n+1) n;have h2:=Zc7 r (n+1+l.cnt) n;simp only[kn,BT.cnt,Ki,Kg];omega
theorem ZhC {ps:List Pane} {b:BT} {g:Box} {s:List Int} (hf:Z4 ps b g.W g.H=true) (hg:Jd g) (ho:okS (kn b 0 (-1)) [] s=true) (hl:s.length=(kn b 0 (-1)).length):(goS b g [g] s).Perm (VQ b g):=by
 have h:=(Zkf hf hg (ZeF b 0) (t:=[g]) (by rw[ZfO]) ho).1;rw[Le] at h;exact h.trans (Zc5 (ZqW ho hl))
def UE:BT→Int
 | .cut _ _ l r=>if UE l=UE r then UE l+1 else max (UE l) (UE r)
 | .waste=>0
 | .pane _ _=>0
def Q5:BT→Int→List Int
 | .cut _ _ l r,n=>if UE r<UE l then n :: (Q5 r (n+1+l.cnt)++Q5 l (n+1)) else n :: (Q5 l (n+1)++Q5 r (n+1+l.cnt))
 | .waste,_=>[]
 | .pane _ _,_=>[]
theorem Zd4:∀ b:BT,0≤UE b∧UE b≤b.cnt
 | .waste=>by simp[UE,BT.cnt]
 | .pane _ _=>by simp[UE,BT.cnt]
 | .cut _ _ l r=>by
  have h1:=Zd4 l;have h2:=Zd4 r;simp only[UE,BT.cnt];split<;>omega
theorem V2:∀ (b:BT) (n a:Int),(Q5 b n).length=(kn b n a).length
 | .waste,n,a=>rfl
 | .pane _ _,n,a=>rfl
 | .cut d c l r,n,a=>by
  have h1:=V2 l (n+1) n;have h2:=V2 r (n+1+l.cnt) n;simp only[Q5,kn];split<;>(simp only[Ki,Kg];omega)
theorem JB:∀ {b:BT} {n m:Int},m∈Q5 b n→n≤m∧m<n+b.cnt
 | .waste,n,m,h=>by simp[Q5] at h
 | .pane _ _,n,m,h=>by simp[Q5] at h
 | .cut d c l r,n,m,h=>by
  have h' : m=n∨m∈Q5 l (n+1)∨m∈Q5 r (n+1+l.cnt):=by
   simp only[Q5] at h;split at h
   ·simp only[Ke,Kd] at h;rcases h with h | h | h<;>simp[h]
   ·simpa only[Ke,Kd] using h
  simp only[BT.cnt];rcases h' with h | h | h
  ·omega
  ·have:=JB h;omega
  ·have:=JB h;omega
theorem ZbI {K:List (Int×Int)} (hK:(K.map Prod.fst).Nodup):∀ {b:BT} {n a:Int} {dn:List Int},(∀ q∈kn b n a,q∈K)→(∀ m∈dn,m<n∨n+b.cnt≤m)→(a<0∨a∈dn)→okS K dn (Q5 b n)=true
 | .waste,n,a,dn,_,_,_=>rfl
 | .pane _ _,n,a,dn,_,_,_=>rfl
 | .cut d c l r,n,a,dn,hq,hd,ha=>by
  simp only[BT.cnt] at hd;have h0:okN K dn n=true:=ZpP (hq (n,a) (by simp[kn])) hK (fun h=>by have:=hd n h;omega) ha;have hl:∀ q∈kn l (n+1) n,q∈K:=fun q h=>hq q (by simp[kn,h]);have hr:∀ q∈kn r (n+1+l.cnt) n,q∈K:=fun q h=>hq q (by simp[kn,h]);simp only[Q5];split
  ·simp only[okS,h0,KO];rw[ZaQ,Kb];refine⟨ZbI hK hr (fun m hm=>?_) (.inr (by simp)),ZbI hK hl (fun m hm=>?_) (.inr (by simp))⟩
   ·rcases YT.1 hm with hm | rfl
    ·have:=hd m hm;omega
    ·omega
   ·rcases Kd.1 hm with hm | hm
    ·rcases YT.1 hm with hm | rfl
     ·have:=hd m hm;omega
     ·omega
    ·have:=JB hm;omega
  ·simp only[okS,h0,KO];rw[ZaQ,Kb];refine⟨ZbI hK hl (fun m hm=>?_) (.inr (by simp)),ZbI hK hr (fun m hm=>?_) (.inr (by simp))⟩
   ·rcases YT.1 hm with hm | rfl
    ·have:=hd m hm;omega
    ·omega
   ·rcases Kd.1 hm with hm | hm
    ·rcases YT.1 hm with hm | rfl
     ·have:=hd m hm;omega
     ·omega
    ·have:=JB hm;omega
theorem ZqX (b:BT):okS (kn b 0 (-1)) [] (Q5 b 0)=true∧(Q5 b 0).length=(kn b 0 (-1)).length:=
 ⟨ZbI (ZbH b 0 (-1)) (a:=-1) (fun _ h=>h) (fun _ h=>by cases h) (.inl (by decide)),V2 b 0 (-1)⟩
theorem Yi:∀ (b:BT),b.cnt≤1000→Zl Xs Ms XG [.d b.plan.enc] []=some ((.d (J (UE b))),[])
 | .waste,hb=>by
  simp only[BT.plan,Ze.enc_mk,UE];refine cE ?_;simp +contextual -implicitDefEqProofs (maxSteps:=10^7) only[go_sem,seval,↓gZ,Vf,Zj]
 | .pane i t,hb=>by
  simp only[BT.plan,Ze.enc_mk,UE];refine cE ?_;simp +contextual -implicitDefEqProofs (maxSteps:=10^7) only[go_sem,seval,↓gZ,Vf,Zj]
 | .cut d a l r,hb=>by
  simp only[BT.cnt] at hb;have e1:=Yi l (by omega);have e2:=Yi r (by omega);have b1:=Zd4 l;have b2:=Zd4 r;have w1:=wi (UE r+1) (by omega) (by omega);have w2:=wi (UE l+1) (by omega) (by omega);have hd:(Q9 d=2∨Q9 d=3)=True:=eq_true (by cases d<;>simp[Q9]);simp only[BT.plan,Ze.enc_mk,UE];by_cases h:UE l=UE r
  ·rw[Kv h];refine cE ?_;simp +contextual -implicitDefEqProofs (maxSteps:=10^7) only[go_sem,seval,↓gZ,Vf,Zj,hd,e1,e2,h,w1,w2]
  ·rw[Kp h];refine cE ?_;simp +contextual -implicitDefEqProofs (maxSteps:=10^7) only[go_sem,seval,↓gZ,Vf,Zj,hd,e1,e2,h]
def abV (b:BT) (xs:List D) (n:Int):AV×List Zh:=match b with
 | .cut d c l r=>(.own 1,[.gone,.row 1 (xs++(Q5 (.cut d c l r) n).map Xa) true false])
 | _=>(.own 0,[.row 1 xs true false])
theorem Xx (b:BT):(∃ d c l r,b=.cut d c l r)∨((∀ n,Q5 b n=[])∧∀ xs n,abV b xs n=(.own 0,[.row 1 xs true false])):=by
 cases b with
 | cut d' c' l' r'=>exact .inl ⟨_,_,_,_,rfl⟩
 | _=>exact .inr ⟨fun _=>rfl,fun _ _=>rfl⟩
theorem VK {b:BT} {xs:List D} {n:Int} (h:∃ d c l r,b=.cut d c l r):abV b xs n=(.own 1,[.gone,.row 1 (xs++(Q5 b n).map Xa) true false]):=by
 obtain⟨d,c,l,r,rfl⟩:=h;rfl
theorem Xj:∀ (b:BT) (xs:List D) (n:Int),0≤n→n+b.cnt≤255→xs.length+b.cnt≤1000→Zl Xs Ms ZT [.own 0,.d b.plan.enc,(.d (J n))] [.row 1 xs true false]=some (abV b xs n)
 | .waste,xs,n,h0,h1,h2=>by
  simp only[BT.plan,Ze.enc_mk,abV];refine cE ?_;simp +contextual -implicitDefEqProofs (maxSteps:=10^7) only[go_sem,seval,↓gZ,ZD,Zj]
 | .pane i t,xs,n,h0,h1,h2=>by
  simp only[BT.plan,Ze.enc_mk,abV];refine cE ?_;simp +contextual -implicitDefEqProofs (maxSteps:=10^7) only[go_sem,seval,↓gZ,ZD,Zj]
 | .cut d c l r,xs,n,h0,h1,h2=>by
  simp only[BT.cnt] at h1 h2;have w1:=wi (n+1) (by omega) (by omega);have w2:=wi (n+1+l.cnt) (by omega) (by omega);have hr:(xs.length+1)*8≤140737488355328∧xs.length≤140737488355327:=by omega
  have l1:=V2 l (n+1) n;have l2:=V2 r (n+1+l.cnt) n;have k1:=XV l (n+1) n;have k2:=XV r (n+1+l.cnt) n;have es:=Yh l.plan;rw[Y5] at es;have hz:=ZH 255 l;have e4:Zi 255 (some l)=(l.cnt:Int):=by omega
  rw[e4] at es;have t1:=Yi l (by omega);have t2:=Yi r (by omega);have hd:(Q9 d=2∨Q9 d=3)=True:=eq_true (by cases d<;>simp[Q9]);obtain⟨q1,q2,q3,q4,q5,ag⟩:∃ a b c d e,l.plan=.mk a b c d e:=by cases hq:l.plan;exact⟨_,_,_,_,_,rfl⟩
  obtain⟨p1,p2,p3,p4,p5,ah⟩:∃ a b c d e,r.plan=.mk a b c d e:=by cases hq:r.plan;exact⟨_,_,_,_,_,rfl⟩
  by_cases h:UE r<UE l
  ·have e1:=Xj r (xs++[J n]) (n+1+l.cnt) (by omega) (by omega) (by simp only[Kg,Ki,KA];omega);have e2:=Xj l (xs++[J n]++(Q5 r (n+1+l.cnt)).map Xa) (n+1) (by omega) (by omega) (by simp only[Kg,Ki,KA,KG];omega);simp only[ag,ah,Ze.enc_mk] at es t1 t2 e1 e2;simp only[BT.plan,Ze.enc_mk,ag,ah,Km,Ku,abV,Q5,h,Kh];rcases Xx r with ad | ⟨aa,ae⟩
   ·rw[VK ad] at e1;rcases Xx l with hl | ⟨ab,af⟩
    ·rw[VK hl] at e2;refine cE ?_;simp +contextual -implicitDefEqProofs (maxSteps:=10^7) only[go_sem,seval,↓gZ,ZD,Zj,hd,hr,w1,w2,es,t1,t2,h,e1,e2];try (simp[Xa];done)
    ·rw[af] at e2;rw[ab];refine cE ?_;simp +contextual -implicitDefEqProofs (maxSteps:=10^7) only[go_sem,seval,↓gZ,ZD,Zj,hd,hr,w1,w2,es,t1,t2,h,e1,e2];try (simp[Xa];done)
   ·rw[ae] at e1;rw[aa,Ku,K8] at e2;rw[aa];rcases Xx l with hl | ⟨ab,af⟩
    ·rw[VK hl] at e2;refine cE ?_;simp +contextual -implicitDefEqProofs (maxSteps:=10^7) only[go_sem,seval,↓gZ,ZD,Zj,hd,hr,w1,w2,es,t1,t2,h,e1,e2];try (simp[Xa];done)
    ·rw[af] at e2;rw[ab];refine cE ?_;simp +contextual -implicitDefEqProofs (maxSteps:=10^7) only[go_sem,seval,↓gZ,ZD,Zj,hd,hr,w1,w2,es,t1,t2,h,e1,e2];try (simp[Xa];done)
  ·have e1:=Xj l (xs++[J n]) (n+1) (by omega) (by omega) (by simp only[Kg,Ki,KA];omega);have e2:=Xj r (xs++[J n]++(Q5 l (n+1)).map Xa) (n+1+l.cnt) (by omega) (by omega) (by simp only[Kg,Ki,KA,KG];omega);simp only[ag,ah,Ze.enc_mk] at es t1 t2 e1 e2;simp only[BT.plan,Ze.enc_mk,ag,ah,Km,Ku,abV,Q5,h,Kf];rcases Xx l with hl | ⟨ab,af⟩
   ·rw[VK hl] at e1;rcases Xx r with ad | ⟨aa,ae⟩
    ·rw[VK ad] at e2;refine cE ?_;simp +contextual -implicitDefEqProofs (maxSteps:=10^7) only[go_sem,seval,↓gZ,ZD,Zj,hd,hr,w1,w2,es,t1,t2,h,e1,e2];try (simp[Xa];done)
    ·rw[ae] at e2;rw[aa];refine cE ?_;simp +contextual -implicitDefEqProofs (maxSteps:=10^7) only[go_sem,seval,↓gZ,ZD,Zj,hd,hr,w1,w2,es,t1,t2,h,e1,e2];try (simp[Xa];done)
   ·rw[af] at e1;rw[ab,Ku,K8] at e2;rw[ab];rcases Xx r with ad | ⟨aa,ae⟩
    ·rw[VK ad] at e2;refine cE ?_;simp +contextual -implicitDefEqProofs (maxSteps:=10^7) only[go_sem,seval,↓gZ,ZD,Zj,hd,hr,w1,w2,es,t1,t2,h,e1,e2];try (simp[Xa];done)
    ·rw[ae] at e2;rw[aa];refine cE ?_;simp +contextual -implicitDefEqProofs (maxSteps:=10^7) only[go_sem,seval,↓gZ,ZD,Zj,hd,hr,w1,w2,es,t1,t2,h,e1,e2];try (simp[Xa];done)
theorem Zh6 (b:BT) (h2:b.cnt≤255):Zl Xs Ms ZT [.nil,.d b.plan.enc,(.d (J 0))] []=some (.own 0,[.row 1 ((Q5 b 0).map Xa) true false]):=by
 cases b with
 | waste=>
  simp only[BT.plan,Ze.enc_mk,Q5];refine cE ?_;simp +contextual -implicitDefEqProofs (maxSteps:=10^7) only[go_sem,seval,↓gZ,ZD,Zj]
 | pane i t=>
  simp only[BT.plan,Ze.enc_mk,Q5];refine cE ?_;simp +contextual -implicitDefEqProofs (maxSteps:=10^7) only[go_sem,seval,↓gZ,ZD,Zj]
 | cut d c l r=>
  simp only[BT.cnt] at h2;have hr:1*8≤Zt∧1≤Zt:=by unfold Zt;omega
  have w2:=wi (1+(l.cnt:Int)) (by omega) (by omega);have l1:=V2 l 1 0;have l2:=V2 r (1+l.cnt) 0;have k1:=XV l 1 0;have k2:=XV r (1+l.cnt) 0;have es:=Yh l.plan;rw[Y5] at es;have hz:=ZH 255 l;have e4:Zi 255 (some l)=(l.cnt:Int):=by omega
  rw[e4] at es;have t1:=Yi l (by omega);have t2:=Yi r (by omega);have hd:(Q9 d=2∨Q9 d=3)=True:=eq_true (by cases d<;>simp[Q9]);obtain⟨q1,q2,q3,q4,q5,ag⟩:∃ a b c d e,l.plan=.mk a b c d e:=by cases hq:l.plan;exact⟨_,_,_,_,_,rfl⟩
  obtain⟨p1,p2,p3,p4,p5,ah⟩:∃ a b c d e,r.plan=.mk a b c d e:=by cases hq:r.plan;exact⟨_,_,_,_,_,rfl⟩
  by_cases h:UE r<UE l
  ·have e1:=Xj r [J 0] (1+l.cnt) (by omega) (by omega) (by simp only[Ki,KA];omega);have e2:=Xj l (J 0 :: (Q5 r (1+l.cnt)).map Xa) 1 (by omega) (by omega) (by simp only[Ki,KG];omega);simp only[ag,ah,Ze.enc_mk] at es t1 t2 e1 e2;simp only[BT.plan,Ze.enc_mk,ag,ah,Km,Ku,Q5,h,Kh,Int.zero_add];rcases Xx r with ad | ⟨aa,ae⟩
   ·rw[VK ad] at e1;rcases Xx l with hl | ⟨ab,af⟩
    ·rw[VK hl] at e2;refine cE ?_;simp +contextual -implicitDefEqProofs (maxSteps:=10^7) only[go_sem,seval,↓gZ,ZD,Zj,hd,hr,w2,es,t1,t2,h,e1,e2];try (simp[Xa];done)
    ·rw[af] at e2;rw[ab];refine cE ?_;simp +contextual -implicitDefEqProofs (maxSteps:=10^7) only[go_sem,seval,↓gZ,ZD,Zj,hd,hr,w2,es,t1,t2,h,e1,e2];try (simp[Xa];done)
   ·rw[ae] at e1;rw[aa,Ku] at e2;rw[aa];rcases Xx l with hl | ⟨ab,af⟩
    ·rw[VK hl] at e2;refine cE ?_;simp +contextual -implicitDefEqProofs (maxSteps:=10^7) only[go_sem,seval,↓gZ,ZD,Zj,hd,hr,w2,es,t1,t2,h,e1,e2];try (simp[Xa];done)
    ·rw[af] at e2;rw[ab];refine cE ?_;simp +contextual -implicitDefEqProofs (maxSteps:=10^7) only[go_sem,seval,↓gZ,ZD,Zj,hd,hr,w2,es,t1,t2,h,e1,e2];try (simp[Xa];done)
  ·have e1:=Xj l [J 0] 1 (by omega) (by omega) (by simp only[Ki,KA];omega);have e2:=Xj r (J 0 :: (Q5 l 1).map Xa) (1+l.cnt) (by omega) (by omega) (by simp only[Ki,KG];omega);simp only[ag,ah,Ze.enc_mk] at es t1 t2 e1 e2;simp only[BT.plan,Ze.enc_mk,ag,ah,Km,Ku,Q5,h,Kf,Int.zero_add];rcases Xx l with hl | ⟨ab,af⟩
   ·rw[VK hl] at e1;rcases Xx r with ad | ⟨aa,ae⟩
    ·rw[VK ad] at e2;refine cE ?_;simp +contextual -implicitDefEqProofs (maxSteps:=10^7) only[go_sem,seval,↓gZ,ZD,Zj,hd,hr,w2,es,t1,t2,h,e1,e2];try (simp[Xa];done)
    ·rw[ae] at e2;rw[aa];refine cE ?_;simp +contextual -implicitDefEqProofs (maxSteps:=10^7) only[go_sem,seval,↓gZ,ZD,Zj,hd,hr,w2,es,t1,t2,h,e1,e2];try (simp[Xa];done)
   ·rw[af] at e1;rw[ab,Ku] at e2;rw[ab];rcases Xx r with ad | ⟨aa,ae⟩
    ·rw[VK ad] at e2;refine cE ?_;simp +contextual -implicitDefEqProofs (maxSteps:=10^7) only[go_sem,seval,↓gZ,ZD,Zj,hd,hr,w2,es,t1,t2,h,e1,e2];try (simp[Xa];done)
    ·rw[ae] at e2;rw[aa];refine cE ?_;simp +contextual -implicitDefEqProofs (maxSteps:=10^7) only[go_sem,seval,↓gZ,ZD,Zj,hd,hr,w2,es,t1,t2,h,e1,e2];try (simp[Xa];done)
theorem ZhD (b:BT) (hc:b.cnt≤255):Zl Xs Ms Vt [.d b.plan.enc] []=some (.own 0,[.row 1 ((Q5 b 0).map Xa) true false]):=by
 have hs:=Yh b.plan;rw[Y5] at hs;have hz:=ZH 255 b;have e4:Zi 255 (some b)=(b.cnt:Int):=by omega
 have h0:¬(b.cnt:Int)<0:=by omega
 rw[e4] at hs;have e1:=Zh6 b hc;obtain⟨q1,q2,q3,q4,q5,aa⟩:∃ a b' c d e,b.plan=.mk a b' c d e:=by cases hq:b.plan;exact⟨_,_,_,_,_,rfl⟩
 rw[aa,Ze.enc_mk] at hs e1 ⊢;refine cE ?_;simp +contextual -implicitDefEqProofs (maxSteps:=10^7) only[go_sem,seval,↓gZ,JQ,hs,h0,e1]
theorem Zfv (p:Ze) (s:List Int) (hs:s.length≤1048576):Zl Xs Ms YV [.d p.enc,.d (.sl (s.map Xa))] []=some ((.d (.bool (wfP p&&(decide (s.length=(Um p).length)&&okS (Um p) [] s)))),[]):=by
 have e1:=Zd1 p;have hk:(∀ q∈Um p,0≤q.1∧q.1<255∧q.2<255)∧(Um p).length≤255:=by
  unfold Um;split
  ·rename_i b _;split
   ·rename_i hc;exact⟨Zd3 hc,K1 (XV b 0 (-1)) hc⟩
   ·exact⟨fun q hq=>(by cases hq),LA _⟩
  ·exact⟨fun q hq=>(by cases hq),LA _⟩
 have e2:=Zad (Um p) s hk.1 hk.2 hs;obtain⟨o,a,q,t,ks⟩:=p;rw[Ze.enc_mk] at e1 ⊢;generalize Um (.mk o a q t ks)=K at *;cases hw:wfP (.mk o a q t ks) with
 | false=>
  rw[hw] at e1;refine cE ?_;simp +contextual -implicitDefEqProofs (maxSteps:=10^7) only[go_sem,seval,↓gZ,Y0,e1]
 | true=>
  rw[hw] at e1;by_cases hl:s.length=K.length
  ·have aa : (s.length:Int)=(K.length:Int):=by omega
   rw[K7 hl,KO,KO];refine cE ?_;simp +contextual -implicitDefEqProofs (maxSteps:=10^7) only[go_sem,seval,↓gZ,Y0,e1,aa,e2,hl]
  ·have aa : ¬(s.length:Int)=(K.length:Int):=by omega
   rw[Ln hl,KO,K6];refine cE ?_;simp +contextual -implicitDefEqProofs (maxSteps:=10^7) only[go_sem,seval,↓gZ,Y0,e1,aa,hl]
theorem Zly (p:Ze):Zl Xs Ms Jf [.d p.enc] []=some ((.d (J (if wfP p=true then ((Um p).length:Int) else -1))),[]):=by
 have hs:=Yh p;have aa:(wfP p=true→Zi 255 (Qp p)=2*((Um p).length:Int)+1)∧(wfP p=false→Zi 255 (Qp p)<0):=by
  unfold wfP Um;cases hb:Qp p with
  | none=>simp[Zi]
  | some b=>
   have hz:=ZH 255 b;have hk:=Zc7 b 0 (-1);have hc:=b.cnt_pos;simp only[Kk,KC];refine⟨fun h=>?_,fun h=>by omega⟩;have:b.cnt≤255:=by omega
   simp only[this,Kh];omega
 have ad:(Um p).length≤255:=by
  unfold Um;split
  ·split
   ·rename_i b _ hc;exact K1 (XV b 0 (-1)) hc
   ·exact LA _
  ·exact LA _
 obtain⟨o,a,q,t,ks⟩:=p;rw[Ze.enc_mk] at hs ⊢;generalize Zi 255 (Qp (.mk o a q t ks))=z at *;generalize (Um (.mk o a q t ks)).length=n at *;cases hw:wfP (.mk o a q t ks) with
 | true=>
  have hz:=aa.1 hw;have h0:¬z<0:=by omega
  have hq:z.tdiv 2=(n:Int):=by rw[Int.tdiv_eq_ediv_of_nonneg (by omega)];omega
  have ab:=wi (n:Int) (by omega) (by omega);simp only[Kh];refine cE ?_;simp +contextual -implicitDefEqProofs (maxSteps:=10^7) only[go_sem,seval,↓gZ,ZaR,hs,h0,hq,ab]
 | false=>
  have h0:=aa.2 hw;simp only[Ka,Kf];refine cE ?_;simp +contextual -implicitDefEqProofs (maxSteps:=10^7) only[go_sem,seval,↓gZ,ZaR,hs,h0]
theorem ZbJ (a b:List Box) (h:∀ x∈a,x∈b) (hl:a.length=b.length) (hb:b.length≤1048576):Zl Xs Ms Yj [(.d (.sl (a.map Box.enc))),(.d (.sl (b.map Box.enc)))] []=some ((.d (.bool true)),[]):=by
 refine cE ?_;simp +contextual -implicitDefEqProofs (maxSteps:=10^7) only[go_sem,seval,↓gZ,JR];refine LO (α:=Nat) (fun i=>[(5,.d (J (i:Int)))]) (fun _=>[]) (fun i=>i≤a.length) (fun i=>a.length-i) 0 (by omega) ?_;intro i hi ih;by_cases aa:i<a.length
 ·obtain⟨x,hx⟩:=Qx aa;have hw:=ZY (k:=i) (by omega);have af:=h x (Kr hx);obtain⟨X,Y,W,H⟩:=x;simp +contextual -implicitDefEqProofs (maxSteps:=10^7) only[go_sem,seval,↓gZ,hx,aa,hw];refine Zdt Xs Ms (st0:=?st1) (α:=Nat) (fun j=>[(7,.d (J (j:Int))),(6,(.d (.bool (decide ((⟨X,Y,W,H⟩:Box)∈b.take j)))))]) (fun _=>[]) (fun j=>j≤b.length) (fun j=>b.length-j) 0 ?hc2 (by omega) ?h02 ?step2
  case hc2=>simp +contextual -implicitDefEqProofs (maxSteps:=10^7) only[go_sem,seval,↓gZ]<;>exact rfl
  case h02=>simp only[List.take_zero,Lo,decide_false];rfl
  case step2=>
   intro j hj ad;by_cases ab:j<b.length
   ·obtain⟨y,hy⟩:=Qx ab;have ae:=ZY (k:=j) (by omega);have ht:decide ((⟨X,Y,W,H⟩:Box)∈b.take (j+1))=(decide ((⟨X,Y,W,H⟩:Box)∈b.take j) || decide ((⟨X,Y,W,H⟩:Box)=y)):=by
     rw[← Ll];apply decide_eq_decide.2;rw[Lb,hy];simp
    obtain⟨X',Y',W',H'⟩:=y;simp only[Box.mk.injEq] at ht;by_cases hm:(⟨X,Y,W,H⟩:Box)∈b.take j
    ·rw[K7 hm,Bool.true_or] at ht;rw[K7 hm] at *;simp +contextual -implicitDefEqProofs (maxSteps:=10^7) only[go_sem,seval,↓gZ,hy,ab,ae,hx,aa];refine ad (j+1) _ (by omega) (by omega) ?_;simp +contextual -implicitDefEqProofs (maxSteps:=10^7) only[go_sem,seval,↓gZ,ht]
    ·rw[Ln hm,Bool.false_or] at ht;rw[Ln hm] at *;simp +contextual -implicitDefEqProofs (maxSteps:=10^7) only[go_sem,seval,↓gZ,hy,ab,ae,hx,aa];refine ad (j+1) _ (by omega) (by omega) ?_;simp +contextual -implicitDefEqProofs (maxSteps:=10^7) only[go_sem,seval,↓gZ,ht,← Lg]
   ·have:j=b.length:=by omega
    subst this;rw[List.take_length,K7 af];simp +contextual -implicitDefEqProofs (maxSteps:=10^7) only[go_sem,seval,↓gZ,hw];refine ih (i+1) _ (by omega) (by omega) ?_;simp +contextual -implicitDefEqProofs (maxSteps:=10^7) only[go_sem,seval,↓gZ]
 ·have:i=a.length:=by omega
  subst this;have ag : (a.length:Int)=(b.length:Int):=by omega
  simp +contextual -implicitDefEqProofs (maxSteps:=10^7) only[go_sem,seval,↓gZ,ag]
end Go.Proofs.Ytighjmleicikhaa
