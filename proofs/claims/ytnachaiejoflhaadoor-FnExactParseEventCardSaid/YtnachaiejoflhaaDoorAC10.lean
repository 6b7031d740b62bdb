/- Own text. -/
import Derived.Test.YtnachaiejoflhaaDoorACode
import Derived.Test.YtnachaiejoflhaaDoorAbsParts
import Derived.Test.YtnachaiejoflhaaDoorAbsOkD
import Derived.Test.YtnachaiejoflhaaDoorAC8
namespace Go.Proofs.YtnachaiejoflhaaDoor
open Go Go.Abs Go.Abs.E Go.Abs.L
open Nat (reduceMul reduceSub reduceLeDiff reduceEqDiff)
open Int (reduceLE reduceEq reduceToNat reduceNeg)
set_option linter.unusedSimpArgs false
set_option linter.unusedVariables false
set_option maxRecDepth 20000
set_option maxHeartbeats 4000000
end Go.Proofs.YtnachaiejoflhaaDoor
namespace Go.Proofs.YtnachaiejoflhaaDoor
open Go Go.Abs Go.Abs.E Go.Abs.L
open Nat (reduceMul reduceSub reduceLeDiff reduceEqDiff)
open Int (reduceLE reduceEq reduceToNat reduceNeg)
set_option linter.unusedSimpArgs false
set_option linter.unusedVariables false
set_option maxRecDepth 20000
set_option maxHeartbeats 4000000
end Go.Proofs.YtnachaiejoflhaaDoor
namespace Go.Proofs.YtnachaiejoflhaaDoor
open Go Go.Abs Go.Abs.E Go.Abs.L
open Nat (reduceMul reduceSub reduceLeDiff reduceEqDiff)
open Int (reduceLE reduceEq reduceToNat reduceNeg)
set_option linter.unusedSimpArgs false
set_option linter.unusedVariables false
set_option maxRecDepth 20000
set_option maxHeartbeats 4000000
end Go.Proofs.YtnachaiejoflhaaDoor
namespace Go.Proofs.YtnachaiejoflhaaDoor
open Go Go.Abs Go.Abs.E Go.Abs.L
open Nat (reduceMul reduceSub reduceLeDiff reduceEqDiff)
open Int (reduceLE reduceEq reduceToNat reduceNeg)
set_option linter.unusedSimpArgs false
set_option linter.unusedVariables false
set_option maxRecDepth 20000
set_option maxHeartbeats 4000000
def Zam {α:Type} (f:α→Int→α) (c:α→Nat):List α→Int→List α
 | [],_=>[]
 | x :: r,k=>f x k :: Zam f c r (k+c x)
theorem JR {α:Type} (f:α→Int→α) (c:α→Nat):∀ (l:List α) (k:Int),(Zam f c l k).length=l.length
 | [],_=>rfl
 | x :: r,k=>by simp[Zam,JR f c r]
theorem ZlN {α:Type} (f:α→Int→α) (c:α→Nat):∀ (l:List α) (k:Int) (i:Nat) (x:α),l[i]?=some x→(Zam f c l k)[i]?=some (f x (k+(XC c (l.take i):Nat)))
 | y :: r,k,0,x,h=>by simp only[List.getElem?_cons_zero,Option.some.injEq] at h;subst h;simp[Zam,XC]
 | y :: r,k,i+1,x,h=>by
  rw[Zam,List.getElem?_cons_succ,ZlN f c r _ i x (by simpa using h),LS,XC];congr 2;push_cast;omega
theorem ZfB {α:Type} (f:α→Int→α) (c:α→Nat):∀ (l r:List α) (k:Int),Zam f c (l++r) k=Zam f c l k++Zam f c r (k+(XC c l:Nat))
 | [],r,k=>by simp[Zam,XC]
 | x :: l,r,k=>by
  rw[Ku,Zam,ZfB f c l r,Zam,Ku,XC];congr 3;push_cast;omega
theorem Zan {α:Type} (c:α→Nat):∀ (l r:List α),XC c (l++r)=XC c l+XC c r
 | [],r=>by simp[XC]
 | x :: l,r=>by simp[XC,Zan c l r];omega
theorem ZgT {α:Type} {c:α→Nat} {l:List α} {i:Nat} {x:α} (h:l[i]?=some x):XC c (l.take (i+1))=XC c (l.take i)+c x:=by
 rw[Lv,h,Zan];simp[XC]
theorem WN {α:Type} (c:α→Nat) (l:List α) (i:Nat):XC c (l.take i)≤XC c l:=by
 have:=Zan c (l.take i) (l.drop i);rw[KX] at this;omega
def Zgj {α:Type} (f:α→Int→α) (c:α→Nat) (k:Int) (l:List α) (i:Nat):List α:=Zam f c (l.take i) k++l.drop i
theorem ZqD {α:Type} (f:α→Int→α) (c:α→Nat) (k:Int) {l:List α} {i:Nat} (h:i≤l.length):(Zgj f c k l i).length=l.length:=by simp[Zgj,JR];omega
theorem ZqE {α:Type} (f:α→Int→α) (c:α→Nat) (k:Int) {l:List α} {i:Nat} {x:α} (h:l[i]?=some x):(Zgj f c k l i)[i]?=some x:=by
 obtain⟨h1,_⟩:=Kc.1 h;have hl:(Zam f c (l.take i) k).length=i:=by rw[JR];simp;omega
 unfold Zgj;rw[KA (by omega),hl,Nat.sub_self,KL];simpa using h
theorem Zpn {α:Type} (g:α→D) (f:α→Int→α) (c:α→Nat) (k:Int) {l:List α} {i:Nat} {x:α} (h:l[i]?=some x):((Zgj f c k l i).map g).set i (g (f x (k+(XC c (l.take i):Nat))))=(Zgj f c k l (i+1)).map g:=by
 obtain⟨h1,h2⟩:=Kc.1 h;have hl:(Zam f c (l.take i) k).length=i:=by rw[JR];simp;omega
 rw[← List.map_set];congr 1;unfold Zgj;rw[List.set_append_right _ _ (by omega),hl,Nat.sub_self,Lv,h,ZfB,KT,K9 h1];rfl
theorem ZqF {α:Type} (f:α→Int→α) (c:α→Nat) (k:Int) (l:List α):Zgj f c k l l.length=Zam f c l k:=by simp[Zgj]
theorem Zpo {α:Type} (f:α→Int→α) (c:α→Nat) (k:Int) (l:List α):Zgj f c k l 0=l:=by simp[Zgj,Zam]
abbrev nL (ks:List Ze):Nat:=Ze.nodes.nodesL ks
theorem ZkD:∀ ks:List Ze,ks.length≤nL ks
 | []=>Kg _
 | .mk o a p t q :: r=>by have:=ZkD r;simp only[nL,Ze.nodes.nodesL,Ze.nodes,Kn] at this ⊢;omega
theorem ZkE (ks:List Ze) (hk:ks.length≤1048576) (ih:∀ k∈ks,Zj Xs Ms YO [.d k.enc,.d k.enc] []=some ((.d (.bool true)),[])) :
  Zj Xs Ms WY [(.d (.sl (ks.map Ze.enc))),(.d (.sl (ks.map Ze.enc)))] []=some ((.d (.bool true)),[]):=by
 refine cE ?_;simp +contextual -implicitDefEqProofs (maxSteps:=10^7) only[go_sem,seval,↓gZ,Zbq];refine LO (α:=Nat) (fun k=>[(5,.d (J (k:Int)))]) (fun _=>[]) (fun k=>k≤ks.length) (fun k=>ks.length-k) 0 (by omega) ?_;intro k ae ad;by_cases ab:k<ks.length
 ·obtain⟨x,hx⟩:=JJ ab;have aa : (k:Int)<(ks.length:Int):=by omega
  have w1:=ZY (k:=k) (by omega);have e1:=ih x (Kr hx);obtain⟨o,a,q,t,af⟩:=x;rw[Ze.enc_mk] at e1;simp +contextual -implicitDefEqProofs (maxSteps:=10^7) only[go_sem,seval,↓gZ,aa,ab,hx,w1,e1];refine ad (k+1) _ (by omega) (by omega) ?_;simp +contextual -implicitDefEqProofs (maxSteps:=10^7) only[go_sem,seval,↓gZ]
 ·have:k=ks.length:=by omega
  subst this;simp +contextual -implicitDefEqProofs (maxSteps:=10^7) only[go_sem,seval,↓gZ]
theorem ZdK:∀ (n:Nat) (p:Ze),p.nodes≤n→p.nodes≤1048577→Zj Xs Ms YO [.d p.enc,.d p.enc] []=some ((.d (.bool true)),[])
 | 0,.mk o a p t ks,hn,_=>by simp[Ze.nodes] at hn
 | n+1,.mk o a p t ks,hn,hb=>by
  have hl:=ZkD ks;have aa : nL ks≤1048576:=by simp only[Ze.nodes] at hb;simp only[nL];omega
  have e1:=ZkE ks (by omega) (fun k ab=>by
   obtain⟨i,hi⟩:=LJ.1 ab;have:=Jb hi;exact ZdK n k (Zae hn hi) (by simp only[nL] at aa;omega))
  rw[Ze.enc_mk];refine cE ?_;simp +contextual -implicitDefEqProofs (maxSteps:=10^7) only[go_sem,seval,↓gZ,Zdb,e1,bNe,bne_self_eq_false]
theorem Zi2 (o a q:Int) (t:Bool) (ks:List Ze) (h:nL ks≤1048576):Zj Xs Ms YO [.d (.agg [J o,J a,J q,.bool t,.sl (ks.map Ze.enc)]),.d (.agg [J o,J a,J q,.bool t,.sl (ks.map Ze.enc)])] []=some ((.d (.bool true)),[]):=by
 have:=ZdK _ (.mk o a q t ks) (Kg _) (by simp only[Ze.nodes,nL] at h ⊢;omega)
 rwa [Ze.enc_mk] at this
mutual
def ZkF:Ze→Int→Ze
 | .mk _ _ _ _ ks,k=>.mk k (k+1) (k+1+1) (decide ((k+1+1+1).tmod 3=0)) (V5 ks (k+1+1+1+1))
def V5:List Ze→Int→List Ze
 | [],_=>[]
 | p :: r,k=>ZkF p k :: V5 r (k+((4*p.nodes:Nat):Int))
end
def plC (p:Ze):Nat:=4*p.nodes
theorem Zbd:∀ (l:List Ze) (k:Int),V5 l k=Zam ZkF plC l k
 | [],_=>by rw[V5];rfl
 | p :: r,k=>by rw[V5,Zam,Zbd r];rfl
theorem ZeI:∀ l:List Ze,XC plC l=4*nL l
 | []=>rfl
 | p :: r=>by rw[XC,ZeI r];simp only[plC,nL,Ze.nodes.nodesL];omega
theorem ZgU (ks:List Ze) (hk:nL ks≤4194304) (ih:∀ x∈ks,∀ o a p t kk,x=.mk o a p t kk→∀ K:Int,0≤K→K+((4*nL kk:Nat):Int)≤281474976710656→Zj Xs Ms ZI [.own 0,(.d (J K))] [.tree 5 5 (kk.map Ze.enc) none]=some ((.d (J (K+((4*nL kk:Nat):Int)))),[.tree 5 5 ((V5 kk K).map Ze.enc) none])) (k:Int) (h0:0≤k) (h1:k+((4*nL ks:Nat):Int)≤281474976710656) :
  Zj Xs Ms ZI [.own 0,(.d (J k))] [.tree 5 5 (ks.map Ze.enc) none]=some ((.d (J (k+((4*nL ks:Nat):Int)))),[.tree 5 5 ((V5 ks k).map Ze.enc) none]):=by
 have af:=ZeI ks;have am:=ZkD ks;refine cE ?_;simp +contextual -implicitDefEqProofs (maxSteps:=10^7) only[go_sem,seval,↓gZ,WQ];refine Zlh Xs Ms (st0:=?st0) (α:=Nat) (fun i=>[(5,.d (J (i:Int))),(1,.d (J (k+(XC plC (ks.take i):Nat))))]) (fun i=>[(0,.tree 5 5 ((Zgj ZkF plC k ks i).map Ze.enc) none)]) (fun i=>i≤ks.length) (fun i=>ks.length-i) 0 ?hc (by omega) ?h0 ?step
 case hc=>simp +contextual -implicitDefEqProofs (maxSteps:=10^7) only[go_sem,seval,↓gZ]<;>exact rfl
 case h0=>simp only[Zpo,List.take_zero,XC,Int.natCast_zero,Int.add_zero];rfl
 case step=>
  intro i hi ag;have ah:=ZqD ZkF plC k hi;have an:=WN plC ks i;by_cases ad:i<ks.length
  ·obtain⟨x,hx⟩:=JJ ad;have aa : (i:Int)<(ks.length:Int):=by omega
   have w1:=ZY (k:=i) (by omega);have hg:=ZqE ZkF plC k hx;have hs:=Zpn Ze.enc ZkF plC k hx;have ai:=ZgT (c:=plC) hx;have aj:=WN plC ks (i+1);have ak:=ih x (Kr hx);obtain⟨o,a,p,t,kk⟩:=x;have al:plC (.mk o a p t kk)=4+4*nL kk:=by simp only[plC,Ze.nodes,nL];omega
   have ae:k+(XC plC (ks.take (i+1)):Nat)=k+(XC plC (ks.take i):Nat)+1+1+1+1+((4*nL kk:Nat):Int):=by rw[ai,al];push_cast;omega
   generalize hK:k+(XC plC (ks.take i):Nat)=K at hs ae ⊢;have e1:=ak o a p t kk rfl (K+1+1+1+1) (by omega) (by omega);have v1:=wi (K+1) (by omega) (by omega);have v2:=wi (K+1+1) (by omega) (by omega);have v3:=wi (K+1+1+1) (by omega) (by omega);have v4:=wi (K+1+1+1+1) (by omega) (by omega);simp only[ZkF,Ze.enc_mk] at hs;generalize nL kk=nk at *;simp +contextual -implicitDefEqProofs (maxSteps:=10^7) only[go_sem,seval,↓gZ,aa,ad,hg,w1,ah,v1,v2,v3,v4,e1,List.length_set,Lf,List.set_set];refine ag (i+1) _ (by omega) (by omega) ?_;simp +contextual -implicitDefEqProofs (maxSteps:=10^7) only[go_sem,seval,↓gZ,hs,ae]
  ·have:i=ks.length:=by omega
   subst this;rw[ZqF,KR,af,← Zbd];have ab:(V5 ks k).length=ks.length:=by rw[Zbd,JR]
   generalize nL ks=nk at *;simp +contextual -implicitDefEqProofs (maxSteps:=10^7) only[go_sem,seval,↓gZ,ab]
theorem Za7:∀ (n:Nat) (ks:List Ze),nL ks≤n→nL ks≤4194304→∀ k:Int,0≤k→k+((4*nL ks:Nat):Int)≤281474976710656→Zj Xs Ms ZI [.own 0,(.d (J k))] [.tree 5 5 (ks.map Ze.enc) none]=some ((.d (J (k+((4*nL ks:Nat):Int)))),[.tree 5 5 ((V5 ks k).map Ze.enc) none])
 | n,ks,hn,hb,k,h0,h1=>ZgU ks hb (fun x hx o a p t kk he K g0 g1=>by
   obtain⟨i,hi⟩:=LJ.1 hx;have hy:=Jb hi;subst he;have aa:nL kk<nL ks:=by simp only[Ze.nodes,nL] at hy ⊢;omega
   match n,hn with
   | 0,hn=>omega
   | n+1,hn=>exact Za7 n kk (by omega) (by omega) K g0 (by omega)) k h0 h1
theorem Zi3 (o a p:Int) (t:Bool) (ks:List Ze) (hk:nL ks≤4194304) (k:Int) (h0:0≤k) (h1:k≤1099511627776):Zj Xs Ms Z5 [.agg [(.d (J o)),(.d (J a)),(.d (J p)),(.d (.bool t)),.own 0],(.d (J k))] [.tree 5 5 (ks.map Ze.enc) none]=some ((.d (J (k+((4*nL ks:Nat):Int)))),[.tree 5 5 ((V5 ks k).map Ze.enc) none]):=by
 have e1:=Za7 _ ks (Kg _) hk k h0 (by omega);generalize nL ks=nk at *;refine cE ?_;simp +contextual -implicitDefEqProofs (maxSteps:=10^7) only[go_sem,seval,↓gZ,Uo,e1]
theorem ZgV (o a p:Int) (t:Bool) (k:Int):Zj Xs Ms Z5 [.agg [(.d (J o)),(.d (J a)),(.d (J p)),(.d (.bool t)),.own 0],(.d (J k))] [.row 5 [] true false]=some ((.d (J k)),[.row 5 [] true false]):=by
 have e1:Zj Xs Ms ZI [.own 0,(.d (J k))] [.row 5 [] true false]=some ((.d (J k)),[.row 5 [] true false]):=by
  refine cE ?_;simp +contextual -implicitDefEqProofs (maxSteps:=10^7) only[go_sem,seval,↓gZ,WQ];refine LO (α:=Unit) (fun _=>[]) (fun _=>[]) (fun _=>True) (fun _=>0) () trivial ?_;intro _ _ _;simp +contextual -implicitDefEqProofs (maxSteps:=10^7) only[go_sem,seval,↓gZ]
 refine cE ?_;simp +contextual -implicitDefEqProofs (maxSteps:=10^7) only[go_sem,seval,↓gZ,Uo,e1]
theorem ZgW (ks:List Ze) (hk:nL ks≤4194304) (ih:∀ x∈ks,∀ o a p t kk,x=.mk o a p t kk→∀ K:Int,0≤K→K+((4*nL kk:Nat):Int)≤281474976710656→Zj Xs Ms Xm [.d (.sl ((V5 kk K).map Ze.enc)),(.d (J K))] []=some ((.d (J (K+((4*nL kk:Nat):Int)))),[])) (k:Int) (h0:0≤k) (h1:k+((4*nL ks:Nat):Int)≤281474976710656) :
  Zj Xs Ms Xm [.d (.sl ((V5 ks k).map Ze.enc)),(.d (J k))] []=some ((.d (J (k+((4*nL ks:Nat):Int)))),[]):=by
 have af:=ZeI ks;have al:=ZkD ks;have ab:(V5 ks k).length=ks.length:=by rw[Zbd,JR]
 refine cE ?_;simp +contextual -implicitDefEqProofs (maxSteps:=10^7) only[go_sem,seval,↓gZ,JD];refine Zlh Xs Ms (st0:=?st0) (α:=Nat) (fun i=>[(5,.d (J (i:Int))),(1,.d (J (k+(XC plC (ks.take i):Nat))))]) (fun _=>[]) (fun i=>i≤ks.length) (fun i=>ks.length-i) 0 ?hc (by omega) ?h0 ?step
 case hc=>simp +contextual -implicitDefEqProofs (maxSteps:=10^7) only[go_sem,seval,↓gZ]<;>exact rfl
 case h0=>simp only[List.take_zero,XC,Int.natCast_zero,Int.add_zero];rfl
 case step=>
  intro i hi ag;have am:=WN plC ks i;by_cases ad:i<ks.length
  ·obtain⟨x,hx⟩:=JJ ad;have aa : (i:Int)<(ks.length:Int):=by omega
   have w1:=ZY (k:=i) (by omega);have hg:=ZlN ZkF plC ks k i x hx;rw[← Zbd] at hg;have ah:=ZgT (c:=plC) hx;have ai:=WN plC ks (i+1);have aj:=ih x (Kr hx);obtain⟨o,a,p,t,kk⟩:=x;have ak:plC (.mk o a p t kk)=4+4*nL kk:=by simp only[plC,Ze.nodes,nL];omega
   have ae:k+(XC plC (ks.take (i+1)):Nat)=k+(XC plC (ks.take i):Nat)+1+1+1+1+((4*nL kk:Nat):Int):=by rw[ah,ak];push_cast;omega
   generalize hK:k+(XC plC (ks.take i):Nat)=K at hg ae ⊢;have e1:=aj o a p t kk rfl (K+1+1+1+1) (by omega) (by omega);have n1:¬K+1+1+1+1+((4*nL kk:Nat):Int)<0:=by omega
   have v1:=wi (K+1) (by omega) (by omega);have v2:=wi (K+1+1) (by omega) (by omega);have v3:=wi (K+1+1+1) (by omega) (by omega);have v4:=wi (K+1+1+1+1) (by omega) (by omega);simp only[ZkF] at hg;generalize nL kk=nk at *;simp +contextual -implicitDefEqProofs (maxSteps:=10^7) only[go_sem,seval,↓gZ,aa,ad,hg,w1,ab,v1,v2,v3,v4,e1,n1,bNe,bne_self_eq_false];refine ag (i+1) _ (by omega) (by omega) ?_;simp +contextual -implicitDefEqProofs (maxSteps:=10^7) only[go_sem,seval,↓gZ,ae]
  ·have:i=ks.length:=by omega
   subst this;rw[KR,af];generalize nL ks=nk at *;simp +contextual -implicitDefEqProofs (maxSteps:=10^7) only[go_sem,seval,↓gZ,ab]
theorem Za8:∀ (n:Nat) (ks:List Ze),nL ks≤n→nL ks≤4194304→∀ k:Int,0≤k→k+((4*nL ks:Nat):Int)≤281474976710656→Zj Xs Ms Xm [.d (.sl ((V5 ks k).map Ze.enc)),(.d (J k))] []=some ((.d (J (k+((4*nL ks:Nat):Int)))),[])
 | n,ks,hn,hb,k,h0,h1=>ZgW ks hb (fun x hx o a p t kk he K g0 g1=>by
   obtain⟨i,hi⟩:=LJ.1 hx;have hy:=Jb hi;subst he;have aa:nL kk<nL ks:=by simp only[Ze.nodes,nL] at hy ⊢;omega
   match n,hn with
   | 0,hn=>omega
   | n+1,hn=>exact Za8 n kk (by omega) (by omega) K g0 (by omega)) k h0 h1
theorem Zi4 (o a p:Int) (t:Bool) (ks:List Ze) (hk:nL ks≤4194304) (k:Int) (h0:0≤k) (h1:k≤1099511627776):Zj Xs Ms V6 [.d (.agg [J o,J a,J p,.bool t,.sl ((V5 ks k).map Ze.enc)]),(.d (J k))] []=some ((.d (J (k+((4*nL ks:Nat):Int)))),[]):=by
 have e1:=Za8 _ ks (Kg _) hk k h0 (by omega);have n1:¬k+((4*nL ks:Nat):Int)<0:=by omega
 generalize nL ks=nk at *;refine cE ?_;simp +contextual -implicitDefEqProofs (maxSteps:=10^7) only[go_sem,seval,↓gZ,Zau,e1,n1]
def ZkG (e:ZR):Nat:=e.plan.nodes-1
theorem ZgX (eK eL eX eY eW eH aa ab:Int) (ad:Bool) (ae eC eo ea ep:Int) (et:Bool) (ek:List Ze) (h:nL ek≤1048576):Zj Xs Ms VR [(.d (.agg [J eK,J eL,J eX,J eY,J eW,J eH,J aa,J ab,.bool ad,J ae,J eC,J eo,J ea,J ep,.bool et,.sl (ek.map Ze.enc)])),(.d (.agg [J eK,J eL,J eX,J eY,J eW,J eH,J aa,J ab,.bool ad,J ae,J eC,J eo,J ea,J ep,.bool et,.sl (ek.map Ze.enc)]))] []=some ((.d (.bool true)),[]):=by
 have e1:=ZkC eX eY eW eH;have e2:=Zi1 aa ab ad ae eC;have e3:=Zi2 eo ea ep et ek h;refine cE ?_;simp +contextual -implicitDefEqProofs (maxSteps:=10^7) only[go_sem,seval,↓gZ,Zbo,e1,e2,e3]
theorem ZgY (eK eL eX eY eW eH aa ab:Int) (ad:Bool) (ae eC eo ea ep:Int) (et:Bool) (ek:List Ze) (hk:nL ek≤4194304) (k:Int) (h0:0≤k) (h1:k≤1099511627776):Zj Xs Ms ZS [.agg [(.d (J eK)),(.d (J eL)),(.d (J eX)),(.d (J eY)),(.d (J eW)),(.d (J eH)),(.d (J aa)),(.d (J ab)),(.d (.bool ad)),(.d (J ae)),(.d (J eC)),(.d (J eo)),(.d (J ea)),(.d (J ep)),(.d (.bool et)),.own 0],(.d (J k))] [.tree 5 5 (ek.map Ze.enc) none]=some ((.d (J (k+((4*nL ek:Nat):Int)))),[.tree 5 5 ((V5 ek k).map Ze.enc) none]):=by
 have e1:=Zi3 eo ea ep et ek hk k h0 h1;generalize nL ek=nk at *;refine cE ?_;simp +contextual -implicitDefEqProofs (maxSteps:=10^7) only[go_sem,seval,↓gZ,WO,e1]
theorem Zgk (eK eL eX eY eW eH aa ab:Int) (ad:Bool) (ae eC eo ea ep:Int) (et:Bool) (k:Int):Zj Xs Ms ZS [.agg [(.d (J eK)),(.d (J eL)),(.d (J eX)),(.d (J eY)),(.d (J eW)),(.d (J eH)),(.d (J aa)),(.d (J ab)),(.d (.bool ad)),(.d (J ae)),(.d (J eC)),(.d (J eo)),(.d (J ea)),(.d (J ep)),(.d (.bool et)),.own 0],(.d (J k))] [.row 5 [] true false]=some ((.d (J k)),[.row 5 [] true false]):=by
 have e1:=ZgV eo ea ep et k;refine cE ?_;simp +contextual -implicitDefEqProofs (maxSteps:=10^7) only[go_sem,seval,↓gZ,WO,e1]
theorem ZgZ (eK eL eX eY eW eH aa ab:Int) (ad:Bool) (ae eC eo ea ep:Int) (et:Bool) (ek:List Ze) (hk:nL ek≤4194304) (k:Int) (h0:0≤k) (h1:k≤1099511627776):Zj Xs Ms Yr [.d (.agg [J eK,J eL,J eX,J eY,J eW,J eH,J aa,J ab,.bool ad,J ae,J eC,J eo,J ea,J ep,.bool et,.sl ((V5 ek k).map Ze.enc)]),(.d (J k))] []=some ((.d (J (k+((4*nL ek:Nat):Int)))),[]):=by
 have e1:=Zi4 eo ea ep et ek hk k h0 h1;have n1:¬k+((4*nL ek:Nat):Int)<0:=by omega
 generalize nL ek=nk at *;refine cE ?_;simp +contextual -implicitDefEqProofs (maxSteps:=10^7) only[go_sem,seval,↓gZ,JB,e1,n1]
theorem Zc1:∀ b:BT,b.plan.nodes=b.cnt
 | .waste=>rfl
 | .pane _ _=>rfl
 | .cut _ _ l r=>by
  have h1:=Zc1 l;have h2:=Zc1 r;simp only[BT.plan,Ze.nodes,Ze.nodes.nodesL,BT.cnt] at h1 h2 ⊢;omega
theorem Zpp (s:List UInt8):ZkG (evM (Zc6 s))≤255:=by
 cases h:Zc6 s with
 | none=>simp[evM,evZ,ZkG,BT.plan,Ze.nodes,Ze.nodes.nodesL]
 | some v=>
  have hv:=(Zce.1 h).2;cases v with
  | cut l b=>
   have h1:=hv.2.1;have h2:=Zc1 b;simp only[evM,Ev.ev,ZkG];omega
  | sheet a b c=>simp[evM,Ev.ev,ZkG,BT.plan,Ze.nodes,Ze.nodes.nodesL]
  | flaw a b c d e=>simp[evM,Ev.ev,ZkG,BT.plan,Ze.nodes,Ze.nodes.nodesL]
  | order n=>simp[evM,Ev.ev,ZkG,BT.plan,Ze.nodes,Ze.nodes.nodesL]
  | brk n=>simp[evM,Ev.ev,ZkG,BT.plan,Ze.nodes,Ze.nodes.nodesL]
  | scrap l=>simp[evM,Ev.ev,ZkG,BT.plan,Ze.nodes,Ze.nodes.nodesL]
theorem Zao (s:List UInt8) (hs:s.length≤maxLen):Zj Xs Ms QR [.d (.str s)] []=some ((.d (.bool true)),[]):=by
 by_cases hc:s.length≤1048576
 ·have aa : ¬(1048576:Int)<(s.length:Int):=by omega
  obtain⟨K,L,X,Y,W,H,pW,pH,pT,pK,C,o,a,q,t,ks,e2,h2⟩:=Zgm s hc;obtain⟨K',L',X',Y',W',H',ad,ae,af,ag,C',o',a',q',t',ah,e3,h3⟩:=Zgp s hc;rw[← h2] at h3;cases h3;have ab:=Zpp s;rw[← h2] at ab;have hn:nL ks≤255:=by simp only[ZkG,Ze.nodes,nL] at ab ⊢;omega
  have e4:=ZgX K L X Y W H pW pH pT pK C o a q t ks (by omega);have e6:=ZgZ K L X Y W H pW pH pT pK C o a q t ks (by omega) 1 (by decide) (by decide);have y1:¬(1:Int)+((4*nL ks:Nat):Int)<0:=by omega
  generalize (Zc6 s).isSome=ok at e2 e3;cases ks with
  | nil=>
   have e5:=Zgk K L X Y W H pW pH pT pK C o a q t 1;simp only[plO,Kv,nL,Ze.nodes.nodesL,V5,Nat.mul_zero,Int.natCast_zero,Int.add_zero] at e2 e3 e4 e6;refine cE ?_;simp +contextual -implicitDefEqProofs (maxSteps:=10^7) only[go_sem,seval,↓gZ,QS,aa,e2,e3,e4,e5,e6,bNe,bne_self_eq_false]
  | cons x r=>
   have e5:=ZgY K L X Y W H pW pH pT pK C o a q t (x :: r) (by omega) 1 (by decide) (by decide);simp only[plO] at e2;generalize (1:Int)+((4*nL (x :: r):Nat):Int)=g4 at *;generalize V5 (x :: r) 1=R2 at *;clear h2;generalize x :: r=R at *;refine cE ?_;simp +contextual -implicitDefEqProofs (maxSteps:=10^7) only[go_sem,seval,↓gZ,QS,aa,e2,e3,e4,e5,e6,y1,bNe,bne_self_eq_false]
 ·have aa : (1048576:Int)<(s.length:Int):=by omega
  refine cE ?_;simp +contextual -implicitDefEqProofs (maxSteps:=10^7) only[go_sem,seval,↓gZ,QS,aa]
end Go.Proofs.YtnachaiejoflhaaDoor
