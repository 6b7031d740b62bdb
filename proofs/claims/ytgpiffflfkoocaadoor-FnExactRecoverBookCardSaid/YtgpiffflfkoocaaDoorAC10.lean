/- Own text. -/
import Derived.Test.YtgpiffflfkoocaaDoorACode
import Derived.Test.YtgpiffflfkoocaaDoorAbsParts
import Derived.Test.YtgpiffflfkoocaaDoorAC7
import Derived.Test.YtgpiffflfkoocaaDoorAbsOkD
namespace Go.Proofs.YtgpiffflfkoocaaDoor
open Go Go.Abs Go.Abs.E Go.Abs.L
open Nat (reduceMul reduceSub reduceLeDiff reduceEqDiff)
open Int (reduceLE reduceEq reduceToNat reduceNeg)
set_option linter.unusedSimpArgs false
set_option linter.unusedVariables false
set_option maxRecDepth 20000
set_option maxHeartbeats 4000000
def J1 {α:Type} (f:α→Int→α) (c:α→Nat):List α→Int→List α
 | [],_=>[]
 | x :: r,k=>f x k :: J1 f c r (k+c x)
theorem WV {α:Type} (f:α→Int→α) (c:α→Nat):∀ (l:List α) (k:Int),(J1 f c l k).length=l.length
 | [],_=>rfl
 | x :: r,k=>by simp[J1,WV f c r]
theorem Zhe {α:Type} (f:α→Int→α) (c:α→Nat):∀ (l:List α) (k:Int) (i:Nat) (x:α),l[i]?=some x→(J1 f c l k)[i]?=some (f x (k+(Z1 c (l.take i):Nat)))
 | y :: r,k,0,x,h=>by simp only[List.getElem?_cons_zero,Option.some.injEq] at h;subst h;simp[J1,Z1]
 | y :: r,k,i+1,x,h=>by
  rw[J1,List.getElem?_cons_succ,Zhe f c r _ i x (by simpa using h),L6,Z1];congr 2;push_cast;omega
theorem ZfU {α:Type} (f:α→Int→α) (c:α→Nat):∀ (l r:List α) (k:Int),J1 f c (l++r) k=J1 f c l k++J1 f c r (k+(Z1 c l:Nat))
 | [],r,k=>by simp[J1,Z1]
 | x :: l,r,k=>by
  rw[Kv,J1,ZfU f c l r,J1,Kv,Z1];congr 3;push_cast;omega
theorem Zay {α:Type} (c:α→Nat):∀ (l r:List α),Z1 c (l++r)=Z1 c l+Z1 c r
 | [],r=>by simp[Z1]
 | x :: l,r=>by simp[Z1,Zay c l r];omega
theorem Zaz {α:Type} {c:α→Nat} {l:List α} {i:Nat} {x:α} (h:l[i]?=some x):Z1 c (l.take (i+1))=Z1 c (l.take i)+c x:=by
 rw[LH,h,Zay];simp[Z1]
theorem Xn {α:Type} (c:α→Nat) (l:List α) (i:Nat):Z1 c (l.take i)≤Z1 c l:=by
 have:=Zay c (l.take i) (l.drop i);rw[KZ] at this;omega
def ZeU {α:Type} (f:α→Int→α) (c:α→Nat) (k:Int) (l:List α) (i:Nat):List α:=J1 f c (l.take i) k++l.drop i
theorem Zl2 {α:Type} (f:α→Int→α) (c:α→Nat) (k:Int) {l:List α} {i:Nat} (h:i≤l.length):(ZeU f c k l i).length=l.length:=by simp[ZeU,WV];omega
theorem Zl3 {α:Type} (f:α→Int→α) (c:α→Nat) (k:Int) {l:List α} {i:Nat} {x:α} (h:l[i]?=some x):(ZeU f c k l i)[i]?=some x:=by
 obtain⟨h1,_⟩:=Kb.1 h;have hl:(J1 f c (l.take i) k).length=i:=by rw[WV];simp;omega
 unfold ZeU;rw[KB (by omega),hl,Nat.sub_self,KM];simpa using h
theorem ZjJ {α:Type} (g:α→D) (f:α→Int→α) (c:α→Nat) (k:Int) {l:List α} {i:Nat} {x:α} (h:l[i]?=some x):((ZeU f c k l i).map g).set i (g (f x (k+(Z1 c (l.take i):Nat))))=(ZeU f c k l (i+1)).map g:=by
 obtain⟨h1,h2⟩:=Kb.1 h;have hl:(J1 f c (l.take i) k).length=i:=by rw[WV];simp;omega
 rw[← List.map_set];congr 1;unfold ZeU;rw[List.set_append_right _ _ (by omega),hl,Nat.sub_self,LH,h,ZfU,KH,KT h1];rfl
theorem Zl4 {α:Type} (f:α→Int→α) (c:α→Nat) (k:Int) (l:List α):ZeU f c k l l.length=J1 f c l k:=by simp[ZeU]
theorem ZjK {α:Type} (f:α→Int→α) (c:α→Nat) (k:Int) (l:List α):ZeU f c k l 0=l:=by simp[ZeU,J1]
theorem Zl5 {α:Type} {f:α→Nat} {c:Nat}:∀ {l:List α},(∀ x∈l,f x≤c)→Z1 f l≤c*l.length
 | [],_=>by simp[Z1]
 | x :: l,h=>by
  have h1:=h x (by simp);have h2:=Zl5 (f:=f) (c:=c) (l:=l) fun y hy=>h y (by simp[hy]);simp only[Z1,Km,Nat.mul_add];omega
abbrev nL (ks:List Ze):Nat:=Ze.nodes.nodesL ks
theorem ZkU:∀ ks:List Ze,ks.length≤nL ks
 | []=>Kg _
 | .mk o a p t q :: r=>by have:=ZkU r;simp only[nL,Ze.nodes.nodesL,Ze.nodes,Km] at this ⊢;omega
theorem ZkV (ks:List Ze) (hk:ks.length≤1048576) (ih:∀ k∈ks,Zj Xs Ms YR [.d k.enc,.d k.enc] []=some ((.d (.bool true)),[])) :
  Zj Xs Ms W0 [(.d (.sl (ks.map Ze.enc))),(.d (.sl (ks.map Ze.enc)))] []=some ((.d (.bool true)),[]):=by
 refine cE ?_;simp +contextual -implicitDefEqProofs (maxSteps:=10^7) only[go_sem,seval,↓gZ,ZbB];refine LO (α:=Nat) (fun k=>[(5,.d (J (k:Int)))]) (fun _=>[]) (fun k=>k≤ks.length) (fun k=>ks.length-k) 0 (by omega) ?_;intro k ae ad;by_cases ab:k<ks.length
 ·obtain⟨x,hx⟩:=VR ab;have aa : (k:Int)<(ks.length:Int):=by omega
  have w1:=ZM (k:=k) (by omega);have e1:=ih x (Kp hx);obtain⟨o,a,q,t,af⟩:=x;rw[Ze.enc_mk] at e1;simp +contextual -implicitDefEqProofs (maxSteps:=10^7) only[go_sem,seval,↓gZ,aa,ab,hx,w1,e1];refine ad (k+1) _ (by omega) (by omega) ?_;simp +contextual -implicitDefEqProofs (maxSteps:=10^7) only[go_sem,seval,↓gZ]
 ·have:k=ks.length:=by omega
  subst this;simp +contextual -implicitDefEqProofs (maxSteps:=10^7) only[go_sem,seval,↓gZ]
theorem ZdT:∀ (n:Nat) (p:Ze),p.nodes≤n→p.nodes≤1048577→Zj Xs Ms YR [.d p.enc,.d p.enc] []=some ((.d (.bool true)),[])
 | 0,.mk o a p t ks,hn,_=>by simp[Ze.nodes] at hn
 | n+1,.mk o a p t ks,hn,hb=>by
  have hl:=ZkU ks;have aa : nL ks≤1048576:=by simp only[Ze.nodes] at hb;simp only[nL];omega
  have e1:=ZkV ks (by omega) (fun k ab=>by
   obtain⟨i,hi⟩:=LV.1 ab;have:=Jj hi;exact ZdT n k (Zar hn hi) (by simp only[nL] at aa;omega))
  rw[Ze.enc_mk];refine cE ?_;simp +contextual -implicitDefEqProofs (maxSteps:=10^7) only[go_sem,seval,↓gZ,Zdk,e1,bNe,bne_self_eq_false]
theorem Zjj (o a q:Int) (t:Bool) (ks:List Ze) (h:nL ks≤1048576):Zj Xs Ms YR [.d (.agg [J o,J a,J q,.bool t,.sl (ks.map Ze.enc)]),.d (.agg [J o,J a,J q,.bool t,.sl (ks.map Ze.enc)])] []=some ((.d (.bool true)),[]):=by
 have:=ZdT _ (.mk o a q t ks) (Kg _) (by simp only[Ze.nodes,nL] at h ⊢;omega)
 rwa [Ze.enc_mk] at this
mutual
def ZkW:Ze→Int→Ze
 | .mk _ _ _ _ ks,k=>.mk k (k+1) (k+1+1) (decide ((k+1+1+1).tmod 3=0)) (Ju ks (k+1+1+1+1))
def Ju:List Ze→Int→List Ze
 | [],_=>[]
 | p :: r,k=>ZkW p k :: Ju r (k+((4*p.nodes:Nat):Int))
end
def plC (p:Ze):Nat:=4*p.nodes
theorem Zbn:∀ (l:List Ze) (k:Int),Ju l k=J1 ZkW plC l k
 | [],_=>by rw[Ju];rfl
 | p :: r,k=>by rw[Ju,J1,Zbn r];rfl
theorem ZeV:∀ l:List Ze,Z1 plC l=4*nL l
 | []=>rfl
 | p :: r=>by rw[Z1,ZeV r];simp only[plC,nL,Ze.nodes.nodesL];omega
theorem Zhf (ks:List Ze) (hk:nL ks≤4194304) (ih:∀ x∈ks,∀ o a p t kk,x=.mk o a p t kk→∀ K:Int,0≤K→K+((4*nL kk:Nat):Int)≤281474976710656→Zj Xs Ms ZN [.own 0,(.d (J K))] [.tree 5 5 (kk.map Ze.enc) none]=some ((.d (J (K+((4*nL kk:Nat):Int)))),[.tree 5 5 ((Ju kk K).map Ze.enc) none])) (k:Int) (h0:0≤k) (h1:k+((4*nL ks:Nat):Int)≤281474976710656) :
  Zj Xs Ms ZN [.own 0,(.d (J k))] [.tree 5 5 (ks.map Ze.enc) none]=some ((.d (J (k+((4*nL ks:Nat):Int)))),[.tree 5 5 ((Ju ks k).map Ze.enc) none]):=by
 have af:=ZeV ks;have am:=ZkU ks;refine cE ?_;simp +contextual -implicitDefEqProofs (maxSteps:=10^7) only[go_sem,seval,↓gZ,JK];refine Zeo Xs Ms (st0:=?st0) (α:=Nat) (fun i=>[(5,.d (J (i:Int))),(1,.d (J (k+(Z1 plC (ks.take i):Nat))))]) (fun i=>[(0,.tree 5 5 ((ZeU ZkW plC k ks i).map Ze.enc) none)]) (fun i=>i≤ks.length) (fun i=>ks.length-i) 0 ?hc (by omega) ?h0 ?step
 case hc=>simp +contextual -implicitDefEqProofs (maxSteps:=10^7) only[go_sem,seval,↓gZ]<;>exact rfl
 case h0=>simp only[ZjK,LZ,Z1,Int.natCast_zero,Int.add_zero];rfl
 case step=>
  intro i hi ag;have ah:=Zl2 ZkW plC k hi;have an:=Xn plC ks i;by_cases ad:i<ks.length
  ·obtain⟨x,hx⟩:=VR ad;have aa : (i:Int)<(ks.length:Int):=by omega
   have w1:=ZM (k:=i) (by omega);have hg:=Zl3 ZkW plC k hx;have hs:=ZjJ Ze.enc ZkW plC k hx;have ai:=Zaz (c:=plC) hx;have aj:=Xn plC ks (i+1);have ak:=ih x (Kp hx);obtain⟨o,a,p,t,kk⟩:=x;have al:plC (.mk o a p t kk)=4+4*nL kk:=by simp only[plC,Ze.nodes,nL];omega
   have ae:k+(Z1 plC (ks.take (i+1)):Nat)=k+(Z1 plC (ks.take i):Nat)+1+1+1+1+((4*nL kk:Nat):Int):=by rw[ai,al];push_cast;omega
   generalize hK:k+(Z1 plC (ks.take i):Nat)=K at hs ae ⊢;have e1:=ak o a p t kk rfl (K+1+1+1+1) (by omega) (by omega);have v1:=wi (K+1) (by omega) (by omega);have v2:=wi (K+1+1) (by omega) (by omega);have v3:=wi (K+1+1+1) (by omega) (by omega);have v4:=wi (K+1+1+1+1) (by omega) (by omega);simp only[ZkW,Ze.enc_mk] at hs;generalize nL kk=nk at *;simp +contextual -implicitDefEqProofs (maxSteps:=10^7) only[go_sem,seval,↓gZ,aa,ad,hg,w1,ah,v1,v2,v3,v4,e1,List.length_set,Ll,List.set_set];refine ag (i+1) _ (by omega) (by omega) ?_;simp +contextual -implicitDefEqProofs (maxSteps:=10^7) only[go_sem,seval,↓gZ,hs,ae]
  ·have:i=ks.length:=by omega
   subst this;rw[Zl4,KN,af,← Zbn];have ab:(Ju ks k).length=ks.length:=by rw[Zbn,WV]
   generalize nL ks=nk at *;simp +contextual -implicitDefEqProofs (maxSteps:=10^7) only[go_sem,seval,↓gZ,ab]
theorem Zbg:∀ (n:Nat) (ks:List Ze),nL ks≤n→nL ks≤4194304→∀ k:Int,0≤k→k+((4*nL ks:Nat):Int)≤281474976710656→Zj Xs Ms ZN [.own 0,(.d (J k))] [.tree 5 5 (ks.map Ze.enc) none]=some ((.d (J (k+((4*nL ks:Nat):Int)))),[.tree 5 5 ((Ju ks k).map Ze.enc) none])
 | n,ks,hn,hb,k,h0,h1=>Zhf ks hb (fun x hx o a p t kk he K g0 g1=>by
   obtain⟨i,hi⟩:=LV.1 hx;have hy:=Jj hi;subst he;have aa:nL kk<nL ks:=by simp only[Ze.nodes,nL] at hy ⊢;omega
   match n,hn with
   | 0,hn=>omega
   | n+1,hn=>exact Zbg n kk (by omega) (by omega) K g0 (by omega)) k h0 h1
theorem Zhg (ks:List Ze) (hk:nL ks≤4194304) (ih:∀ x∈ks,∀ o a p t kk,x=.mk o a p t kk→∀ K:Int,0≤K→K+((4*nL kk:Nat):Int)≤281474976710656→Zj Xs Ms Xp [.d (.sl ((Ju kk K).map Ze.enc)),(.d (J K))] []=some ((.d (J (K+((4*nL kk:Nat):Int)))),[])) (k:Int) (h0:0≤k) (h1:k+((4*nL ks:Nat):Int)≤281474976710656) :
  Zj Xs Ms Xp [.d (.sl ((Ju ks k).map Ze.enc)),(.d (J k))] []=some ((.d (J (k+((4*nL ks:Nat):Int)))),[]):=by
 have af:=ZeV ks;have al:=ZkU ks;have ab:(Ju ks k).length=ks.length:=by rw[Zbn,WV]
 refine cE ?_;simp +contextual -implicitDefEqProofs (maxSteps:=10^7) only[go_sem,seval,↓gZ,JL];refine Zeo Xs Ms (st0:=?st0) (α:=Nat) (fun i=>[(5,.d (J (i:Int))),(1,.d (J (k+(Z1 plC (ks.take i):Nat))))]) (fun _=>[]) (fun i=>i≤ks.length) (fun i=>ks.length-i) 0 ?hc (by omega) ?h0 ?step
 case hc=>simp +contextual -implicitDefEqProofs (maxSteps:=10^7) only[go_sem,seval,↓gZ]<;>exact rfl
 case h0=>simp only[LZ,Z1,Int.natCast_zero,Int.add_zero];rfl
 case step=>
  intro i hi ag;have am:=Xn plC ks i;by_cases ad:i<ks.length
  ·obtain⟨x,hx⟩:=VR ad;have aa : (i:Int)<(ks.length:Int):=by omega
   have w1:=ZM (k:=i) (by omega);have hg:=Zhe ZkW plC ks k i x hx;rw[← Zbn] at hg;have ah:=Zaz (c:=plC) hx;have ai:=Xn plC ks (i+1);have aj:=ih x (Kp hx);obtain⟨o,a,p,t,kk⟩:=x;have ak:plC (.mk o a p t kk)=4+4*nL kk:=by simp only[plC,Ze.nodes,nL];omega
   have ae:k+(Z1 plC (ks.take (i+1)):Nat)=k+(Z1 plC (ks.take i):Nat)+1+1+1+1+((4*nL kk:Nat):Int):=by rw[ah,ak];push_cast;omega
   generalize hK:k+(Z1 plC (ks.take i):Nat)=K at hg ae ⊢;have e1:=aj o a p t kk rfl (K+1+1+1+1) (by omega) (by omega);have n1:¬K+1+1+1+1+((4*nL kk:Nat):Int)<0:=by omega
   have v1:=wi (K+1) (by omega) (by omega);have v2:=wi (K+1+1) (by omega) (by omega);have v3:=wi (K+1+1+1) (by omega) (by omega);have v4:=wi (K+1+1+1+1) (by omega) (by omega);simp only[ZkW] at hg;generalize nL kk=nk at *;simp +contextual -implicitDefEqProofs (maxSteps:=10^7) only[go_sem,seval,↓gZ,aa,ad,hg,w1,ab,v1,v2,v3,v4,e1,n1,bNe,bne_self_eq_false];refine ag (i+1) _ (by omega) (by omega) ?_;simp +contextual -implicitDefEqProofs (maxSteps:=10^7) only[go_sem,seval,↓gZ,ae]
  ·have:i=ks.length:=by omega
   subst this;rw[KN,af];generalize nL ks=nk at *;simp +contextual -implicitDefEqProofs (maxSteps:=10^7) only[go_sem,seval,↓gZ,ab]
theorem Zbh:∀ (n:Nat) (ks:List Ze),nL ks≤n→nL ks≤4194304→∀ k:Int,0≤k→k+((4*nL ks:Nat):Int)≤281474976710656→Zj Xs Ms Xp [.d (.sl ((Ju ks k).map Ze.enc)),(.d (J k))] []=some ((.d (J (k+((4*nL ks:Nat):Int)))),[])
 | n,ks,hn,hb,k,h0,h1=>Zhg ks hb (fun x hx o a p t kk he K g0 g1=>by
   obtain⟨i,hi⟩:=LV.1 hx;have hy:=Jj hi;subst he;have aa:nL kk<nL ks:=by simp only[Ze.nodes,nL] at hy ⊢;omega
   match n,hn with
   | 0,hn=>omega
   | n+1,hn=>exact Zbh n kk (by omega) (by omega) K g0 (by omega)) k h0 h1
def Zbk (e:Zw):Nat:=e.plan.nodes-1
theorem Zhh (eK eL eX eY eW eH aa ab:Int) (ad:Bool) (ae eC eo ea ep:Int) (et:Bool) (ek:List Ze) (h:nL ek≤1048576):Zj Xs Ms WY [(.d (.agg [J eK,J eL,J eX,J eY,J eW,J eH,J aa,J ab,.bool ad,J ae,J eC,J eo,J ea,J ep,.bool et,.sl (ek.map Ze.enc)])),(.d (.agg [J eK,J eL,J eX,J eY,J eW,J eH,J aa,J ab,.bool ad,J ae,J eC,J eo,J ea,J ep,.bool et,.sl (ek.map Ze.enc)]))] []=some ((.d (.bool true)),[]):=by
 have e1:=ZkT eX eY eW eH;have e2:=Zji aa ab ad ae eC;have e3:=Zjj eo ea ep et ek h;refine cE ?_;simp +contextual -implicitDefEqProofs (maxSteps:=10^7) only[go_sem,seval,↓gZ,Zbz,e1,e2,e3]
theorem ZgD (ks:List Zw) (hk:ks.length≤1048576) (hs:∀ e∈ks,Zbk e≤1048576):Zj Xs Ms Y9 [(.d (.sl (ks.map Zw.enc))),(.d (.sl (ks.map Zw.enc)))] []=some ((.d (.bool true)),[]):=by
 refine cE ?_;simp +contextual -implicitDefEqProofs (maxSteps:=10^7) only[go_sem,seval,↓gZ,ZaF];refine LO (α:=Nat) (fun k=>[(5,.d (J (k:Int)))]) (fun _=>[]) (fun k=>k≤ks.length) (fun k=>ks.length-k) 0 (by omega) ?_;intro k af ad;by_cases ab:k<ks.length
 ·obtain⟨x,hx⟩:=VR ab;have aa : (k:Int)<(ks.length:Int):=by omega
  have w1:=ZM (k:=k) (by omega);have ae:=hs x (Kp hx);obtain⟨K,L,⟨X,Y,W,H⟩,⟨⟨pW,pH,pT,pK⟩,C⟩,⟨o,a,q,t,kk⟩⟩:=x;have e1:=Zhh K L X Y W H pW pH pT pK C o a q t kk (by simp only[Zbk,Ze.nodes] at ae;simp only[nL];omega);simp +contextual -implicitDefEqProofs (maxSteps:=10^7) only[go_sem,seval,↓gZ,aa,ab,hx,w1,e1];refine ad (k+1) _ (by omega) (by omega) ?_;simp +contextual -implicitDefEqProofs (maxSteps:=10^7) only[go_sem,seval,↓gZ]
 ·have:k=ks.length:=by omega
  subst this;simp +contextual -implicitDefEqProofs (maxSteps:=10^7) only[go_sem,seval,↓gZ]
theorem Zda:∀ b:BT,b.plan.nodes=b.cnt
 | .waste=>rfl
 | .pane _ _=>rfl
 | .cut _ _ l r=>by
  have h1:=Zda l;have h2:=Zda r;simp only[BT.plan,Ze.nodes,Ze.nodes.nodesL,BT.cnt] at h1 h2 ⊢;omega
theorem ZpI (s:List UInt8):Zbk (evM (Zac s))≤255:=by
 cases h:Zac s with
 | none=>simp[evM,evZ,Zbk,BT.plan,Ze.nodes,Ze.nodes.nodesL]
 | some v=>
  have hv:=(UJ.1 h).2;cases v with
  | cut l b=>
   have h1:=hv.2.1;have h2:=Zda b;simp only[evM,Ev.ev,Zbk];omega
  | sheet a b c=>simp[evM,Ev.ev,Zbk,BT.plan,Ze.nodes,Ze.nodes.nodesL]
  | flaw a b c d e=>simp[evM,Ev.ev,Zbk,BT.plan,Ze.nodes,Ze.nodes.nodesL]
  | order n=>simp[evM,Ev.ev,Zbk,BT.plan,Ze.nodes,Ze.nodes.nodesL]
  | brk n=>simp[evM,Ev.ev,Zbk,BT.plan,Ze.nodes,Ze.nodes.nodesL]
  | scrap l=>simp[evM,Ev.ev,Zbk,BT.plan,Ze.nodes,Ze.nodes.nodesL]
end Go.Proofs.YtgpiffflfkoocaaDoor
