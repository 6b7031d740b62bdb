/- Own text. -/
import Derived.Test.YtighjmleicikhaaACode
import Derived.Test.YtighjmleicikhaaAbsParts
import Derived.Test.YtighjmleicikhaaAC7
import Derived.Test.YtighjmleicikhaaAbsOkD
namespace Go.Proofs.Ytighjmleicikhaa
open Go Go.Abs Go.Abs.E Go.Abs.L
open Nat (reduceMul reduceSub reduceLeDiff reduceEqDiff)
open Int (reduceLE reduceEq reduceToNat reduceNeg)
set_option linter.unusedSimpArgs false
set_option linter.unusedVariables false
set_option maxRecDepth 20000
set_option maxHeartbeats 4000000
def Zb1 {α:Type} (f:α→Int→α) (c:α→Nat):List α→Int→List α
 | [],_=>[]
 | x :: r,k=>f x k :: Zb1 f c r (k+c x)
theorem ZaN {α:Type} (f:α→Int→α) (c:α→Nat):∀ (l:List α) (k:Int),(Zb1 f c l k).length=l.length
 | [],_=>rfl
 | x :: r,k=>by simp[Zb1,ZaN f c r]
theorem ZeM {α:Type} (f:α→Int→α) (c:α→Nat):∀ (l r:List α) (k:Int),Zb1 f c (l++r) k=Zb1 f c l k++Zb1 f c r (k+(Xc c l:Nat))
 | [],r,k=>by simp[Zb1,Xc]
 | x :: l,r,k=>by
  rw[KL,Zb1,ZeM f c l r,Zb1,KL,Xc];congr 3;push_cast;omega
theorem JV {α:Type} (c:α→Nat):∀ (l r:List α),Xc c (l++r)=Xc c l+Xc c r
 | [],r=>by simp[Xc]
 | x :: l,r=>by simp[Xc,JV c l r];omega
theorem Zmn {α:Type} {c:α→Nat} {l:List α} {i:Nat} {x:α} (h:l[i]?=some x):Xc c (l.take (i+1))=Xc c (l.take i)+c x:=by
 rw[KY,h,JV];simp[Xc]
theorem Zb9 {α:Type} (c:α→Nat) (l:List α) (i:Nat):Xc c (l.take i)≤Xc c l:=by
 have:=JV c (l.take i) (l.drop i);rw[K4] at this;omega
def Zfs {α:Type} (f:α→Int→α) (c:α→Nat) (k:Int) (l:List α) (i:Nat):List α:=Zb1 f c (l.take i) k++l.drop i
theorem Zpz {α:Type} (f:α→Int→α) (c:α→Nat) (k:Int) {l:List α} {i:Nat} (h:i≤l.length):(Zfs f c k l i).length=l.length:=by simp[Zfs,ZaN];omega
theorem ZpA {α:Type} (f:α→Int→α) (c:α→Nat) (k:Int) {l:List α} {i:Nat} {x:α} (h:l[i]?=some x):(Zfs f c k l i)[i]?=some x:=by
 obtain⟨h1,_⟩:=Kc.1 h;have hl:(Zb1 f c (l.take i) k).length=i:=by rw[ZaN];simp;omega
 unfold Zfs;rw[Kt (by omega),hl,LN,KN];simpa using h
theorem Zom {α:Type} (g:α→D) (f:α→Int→α) (c:α→Nat) (k:Int) {l:List α} {i:Nat} {x:α} (h:l[i]?=some x):((Zfs f c k l i).map g).set i (g (f x (k+(Xc c (l.take i):Nat))))=(Zfs f c k l (i+1)).map g:=by
 obtain⟨h1,h2⟩:=Kc.1 h;have hl:(Zb1 f c (l.take i) k).length=i:=by rw[ZaN];simp;omega
 rw[← List.map_set];congr 1;unfold Zfs;rw[List.set_append_right _ _ (by omega),hl,LN,KY,h,ZeM,KM,KB h1];rfl
theorem ZpB {α:Type} (f:α→Int→α) (c:α→Nat) (k:Int) (l:List α):Zfs f c k l l.length=Zb1 f c l k:=by simp[Zfs]
theorem Zon {α:Type} (f:α→Int→α) (c:α→Nat) (k:Int) (l:List α):Zfs f c k l 0=l:=by simp[Zfs,Zb1]
theorem ZkR (kW kH:Int) (kP:List Pane) (hk:kP.length≤maxLen) (left:Int) (h0:0≤left) (hl:left≤1048576):Zj Xs Ms Um [(.d (.agg [J kW,J kH,.sl (kP.map Pane.enc)])),(.d (J left))] []=some ((.d (J (szV left kP.length))),[]):=by
 have e1:=ZjB kP hk left h0 hl;by_cases hy:(kP.length:Int)≤left
 ·rw[JU hy] at e1 ⊢;have aa:¬left-(kP.length:Int)<0:=by omega
  refine cE ?_;simp +contextual -implicitDefEqProofs (maxSteps:=10^7) only[go_sem,seval,↓gZ,JW,e1,aa]
 ·rw[ZaJ hy] at e1 ⊢;refine cE ?_;simp +contextual -implicitDefEqProofs (maxSteps:=10^7) only[go_sem,seval,↓gZ,JW,e1]
theorem ZkS (kW kH:Int) (kP:List Pane) (h:kP.length≤1048576):Zj Xs Ms Yi [(.d (.agg [J kW,J kH,.sl (kP.map Pane.enc)]))] []=some (.agg [(.d (J kW)),(.d (J kH)),.own 0],[.row 4 (kP.map Pane.enc) true false]):=by
 have e1:=ZjC kP h;refine cE ?_;simp +contextual -implicitDefEqProofs (maxSteps:=10^7) only[go_sem,seval,↓gZ,Zcy,e1]
theorem ZhW (kW kH:Int) (kP:List Pane) (h:kP.length≤1099511627776):Zj Xs Ms Un [(.d (.agg [J kW,J kH,.sl (kP.map Pane.enc)])),(.d (.agg [J kW,J kH,.sl (kP.map Pane.enc)]))] []=some ((.d (.bool true)),[]):=by
 have e1:=Zf6 kP h;refine cE ?_;simp +contextual -implicitDefEqProofs (maxSteps:=10^7) only[go_sem,seval,↓gZ,ZcC,e1]
theorem ZhX (kW kH:Int) (kP:List Pane) (hk:kP.length≤1099511627776) (k:Int) (h0:0≤k) (h1:k≤562949953421312):Zj Xs Ms Qb [.agg [(.d (J kW)),(.d (J kH)),.own 0],(.d (J k))] [.row 4 (kP.map Pane.enc) true false]=some ((.d (J (k+((4*kP.length:Nat):Int)))),[.row 4 ((mks Zcv 4 kP.length k).map Pane.enc) true false]):=by
 have e1:=Zf7 kP hk k h0 (by omega);refine cE ?_;simp +contextual -implicitDefEqProofs (maxSteps:=10^7) only[go_sem,seval,↓gZ,JY,e1]
abbrev nL (ks:List Ze):Nat:=Ze.nodes.nodesL ks
theorem ZjD:∀ ks:List Ze,ks.length≤nL ks
 | []=>Kf _
 | .mk o a p t q :: r=>by have:=ZjD r;simp only[nL,Ze.nodes.nodesL,Ze.nodes,Kk] at this ⊢;omega
theorem ZkT:∀ ks:List Ze,nL ks=ks.length+Xc (fun p:Ze=>p.nodes-1) ks
 | []=>rfl
 | .mk o a p t q :: r=>by have:=ZkT r;simp only[nL,Ze.nodes.nodesL,Ze.nodes,Kk,Xc] at this ⊢;omega
theorem ZjE (ks:List Ze) (hk:ks.length≤maxLen) (ih:∀ k∈ks,∀ left:Int,0≤left→left≤1048576→Zj Xs Ms Yh [.d k.enc,(.d (J left))] []=some ((.d (J (szV left (k.nodes-1)))),[])) (left:Int) (h0:0≤left) (hl:left≤1048576) :
  Zj Xs Ms WA [(.d (.sl (ks.map Ze.enc))),(.d (J left))] []=some ((.d (J (szV left (nL ks)))),[]):=by
 have ag : (ks.length:Int)≤9223372036854775807:=by unfold maxLen at hk;omega
 have w:=wi (left-ks.length) (by omega) (by omega);have hb:=ZkT ks;by_cases aa:left-(ks.length:Int)<0
 ·rw[ZaJ (by omega)];refine cE ?_;simp +contextual -implicitDefEqProofs (maxSteps:=10^7) only[go_sem,seval,↓gZ,UY,w,aa]
 ·refine cE ?_;simp +contextual -implicitDefEqProofs (maxSteps:=10^7) only[go_sem,seval,↓gZ,UY,w,aa];refine LO (α:=Nat×Int) (fun a=>[(5,.d (J (a.1:Int))),(1,.d (J a.2))]) (fun _=>[]) (fun a=>a.1≤ks.length∧0≤a.2∧a.2≤left∧szV left (nL ks)=szV a.2 (Xc (fun p:Ze=>p.nodes-1) (ks.drop a.1))) (fun a=>ks.length-a.1) (0,left-ks.length) ⟨by simp,by simp only;omega,by simp only;omega,by simp only[List.drop_zero];unfold szV;split<;>split<;>omega⟩ ?_;intro⟨k,m⟩ ⟨hk1,hm0,hml,hp⟩ ih2;simp only at hk1 hm0 hml hp ih2 ⊢;by_cases ad:k<ks.length
  ·obtain⟨x,hx⟩:=QN ad;have ab : (k:Int)<(ks.length:Int):=by omega
   have w1:=ZQ (k:=k) (by omega);have e1:=ih x (Kr hx) m hm0 (by omega);rw[Zpt hx] at hp;obtain⟨o,a,q,t,ae⟩:=x;rw[Ze.enc_mk] at e1;generalize (Ze.mk o a q t ae).nodes-1=nx at e1 hp;by_cases hy:(nx:Int)≤m
   ·rw[JU hy] at e1;have af:¬m-(nx:Int)<0:=by omega
    simp +contextual -implicitDefEqProofs (maxSteps:=10^7) only[go_sem,seval,↓gZ,ab,ad,hx,w1,e1,af];refine ih2 (k+1,m-nx) _ ⟨by simp only;omega,by simp only;omega,by simp only;omega,?_⟩ (by simp only;omega) ?_
    ·rw[hp];simp only;unfold szV;split<;>split<;>omega
    ·simp +contextual -implicitDefEqProofs (maxSteps:=10^7) only[go_sem,seval,↓gZ]
   ·rw[ZaJ hy] at e1;rw[hp,ZaJ (by omega)];simp +contextual -implicitDefEqProofs (maxSteps:=10^7) only[go_sem,seval,↓gZ,ab,ad,hx,w1,e1]
  ·have:k=ks.length:=by omega
   subst this;rw[LD] at hp;rw[hp,JU (by simp only[Xc];omega)];have hz:m-((Xc (fun p:Ze=>p.nodes-1) []:Nat):Int)=m:=by simp[Xc]
   rw[hz];simp +contextual -implicitDefEqProofs (maxSteps:=10^7) only[go_sem,seval,↓gZ]
theorem Zda:∀ (n:Nat) (p:Ze),p.nodes≤n→p.ok→∀ left:Int,0≤left→left≤1048576→Zj Xs Ms Yh [.d p.enc,(.d (J left))] []=some ((.d (J (szV left (p.nodes-1)))),[])
 | 0,.mk o a p t ks,hn,_,_,_,_=>by simp[Ze.nodes] at hn
 | n+1,.mk o a p t ks,hn,hok,left,h0,hl=>by
  cases hok with
  | mk _ _ _ hk hks=>
   have e1:=ZjE ks hk (fun k aa=>by
    obtain⟨i,hi⟩:=Lw.1 aa;exact Zda n k (Wi hn hi) (hks k aa)) left h0 hl
   have ab:(Ze.mk o a p t ks).nodes-1=nL ks:=by simp only[Ze.nodes,nL];omega
   rw[ab,Ze.enc_mk];by_cases hy:((nL ks:Nat):Int)≤left
   ·rw[JU hy] at e1 ⊢;have ad:¬left-((nL ks:Nat):Int)<0:=by omega
    generalize nL ks=m at *;refine cE ?_;simp +contextual -implicitDefEqProofs (maxSteps:=10^7) only[go_sem,seval,↓gZ,JX,e1,ad]
   ·rw[ZaJ hy] at e1 ⊢;refine cE ?_;simp +contextual -implicitDefEqProofs (maxSteps:=10^7) only[go_sem,seval,↓gZ,JX,e1]
theorem ZkU (p:Ze) (aa:p.ok) (left:Int) (h0:0≤left) (hl:left≤1048576):Zj Xs Ms Yh [.d p.enc,(.d (J left))] []=some ((.d (J (szV left (p.nodes-1)))),[]):=Zda _ p (Kf _) aa left h0 hl
def ZeN:D:=.agg [J 0,J 0,J 0,.bool false,.sl []]
theorem ZjF (ks:List Ze) (hk:ks.length≤1048576) (ih:∀ k∈ks,∀ o a p t ab,k=.mk o a p t ab→Zj Xs Ms Xd [.d k.enc] []=some (.agg [(.d (J o)),(.d (J a)),(.d (J p)),(.d (.bool t)),.own 0],[.tree 5 5 (ab.map Ze.enc) none])) :
  Zj Xs Ms WC [(.d (.sl (ks.map Ze.enc)))] []=some (.own 0,[.tree 5 5 (ks.map Ze.enc) none]):=by
 have hm:(ks.length:Int)*56≤140737488355328∧(ks.length:Int)≤140737488355328:=by omega
 refine cE ?_;simp +contextual -implicitDefEqProofs (maxSteps:=10^7) only[go_sem,seval,↓gZ,ZaR,hm,Zv];refine Wt Xs Ms (st0:=?st0) (α:=Nat) (fun k=>[(4,.d (J (k:Int)))]) (fun k=>[(0,.tree 5 5 (UU Ze.enc ZeN ks k) none)]) (fun k=>k≤ks.length) (fun k=>ks.length-k) 0 ?hc (by omega) ?h0 ?step
 case hc=>simp +contextual -implicitDefEqProofs (maxSteps:=10^7) only[go_sem,seval,↓gZ]<;>exact rfl
 case h0=>rw[Zcs];rfl
 case step=>
  intro k af ag;have ah:=Zd2 Ze.enc ZeN af;by_cases ad:k<ks.length
  ·obtain⟨x,hx⟩:=QN ad;have ae : (k:Int)<(ks.length:Int):=by omega
   have w1:=ZQ (k:=k) (by omega);have aa:=Zd3 (f:=Ze.enc) (z:=ZeN) hx;obtain⟨o,a,q,t,ab⟩:=x;have e1:=ih _ (Kr hx) o a q t ab rfl;rw[Ze.enc_mk] at e1 aa;have z1:=Zd4 (f:=Ze.enc) (z:=ZeN) ad;have z2:ZeN.notSl=true:=rfl;have z3:ZeN.cells.length=5:=rfl;have z4:Xn ZeN 0 [J o,J a,J q,.bool t,.sl (ab.map Ze.enc)]=.agg [J o,J a,J q,.bool t,.sl (ab.map Ze.enc)]:=rfl;have z5:ZeN.isAgg=true:=rfl;simp +contextual -implicitDefEqProofs (maxSteps:=10^7) only[go_sem,seval,↓gZ,ae,ad,hx,w1,e1,ah,z1,z2,z3,z4,z5,aa];refine ag (k+1) _ (by omega) (by omega) ?_;simp +contextual -implicitDefEqProofs (maxSteps:=10^7) only[go_sem,seval,↓gZ,aa]
  ·have:k=ks.length:=by omega
   subst this;rw[Zd1];simp +contextual -implicitDefEqProofs (maxSteps:=10^7) only[go_sem,seval,↓gZ]
theorem Zdb:∀ (n:Nat) (p:Ze),p.nodes≤n→p.nodes≤1048577→∀ o a q t ks,p=.mk o a q t ks→Zj Xs Ms Xd [.d p.enc] []=some (.agg [(.d (J o)),(.d (J a)),(.d (J q)),(.d (.bool t)),.own 0],[.tree 5 5 (ks.map Ze.enc) none])
 | 0,.mk o a p t ks,hn,_,_,_,_,_,_,_=>by simp[Ze.nodes] at hn
 | n+1,.mk o a p t ks,hn,hb,o',a',q',t',ks',he=>by
  cases he;have hl:=ZjD ks;have aa : nL ks≤1048576:=by simp only[Ze.nodes] at hb;simp only[nL];omega
  have e1:=ZjF ks (by omega) (fun k ab o1 a1 p1 t1 ad ae=>by
   obtain⟨i,hi⟩:=Lw.1 ab;have:=UK hi;exact Zdb n k (Wi hn hi) (by simp only[nL] at aa;omega) o1 a1 p1 t1 ad ae)
  rw[Ze.enc_mk];refine cE ?_;simp +contextual -implicitDefEqProofs (maxSteps:=10^7) only[go_sem,seval,↓gZ,Zcz,e1]
theorem ZkV (o a q:Int) (t:Bool) (ks:List Ze) (h:nL ks≤1048576):Zj Xs Ms Xd [.d (.agg [J o,J a,J q,.bool t,.sl (ks.map Ze.enc)])] []=some (.agg [(.d (J o)),(.d (J a)),(.d (J q)),(.d (.bool t)),.own 0],[.tree 5 5 (ks.map Ze.enc) none]):=by
 have:=Zdb _ (.mk o a q t ks) (Kf _) (by simp only[Ze.nodes,nL] at h ⊢;omega) o a q t ks rfl
 rwa [Ze.enc_mk] at this
theorem ZjG (ks:List Ze) (hk:ks.length≤1048576) (ih:∀ k∈ks,Zj Xs Ms Yk [.d k.enc,.d k.enc] []=some ((.d (.bool true)),[])) :
  Zj Xs Ms WE [(.d (.sl (ks.map Ze.enc))),(.d (.sl (ks.map Ze.enc)))] []=some ((.d (.bool true)),[]):=by
 refine cE ?_;simp +contextual -implicitDefEqProofs (maxSteps:=10^7) only[go_sem,seval,↓gZ,ZaT];refine LO (α:=Nat) (fun k=>[(5,.d (J (k:Int)))]) (fun _=>[]) (fun k=>k≤ks.length) (fun k=>ks.length-k) 0 (by omega) ?_;intro k ae ad;by_cases ab:k<ks.length
 ·obtain⟨x,hx⟩:=QN ab;have aa : (k:Int)<(ks.length:Int):=by omega
  have w1:=ZQ (k:=k) (by omega);have e1:=ih x (Kr hx);obtain⟨o,a,q,t,af⟩:=x;rw[Ze.enc_mk] at e1;simp +contextual -implicitDefEqProofs (maxSteps:=10^7) only[go_sem,seval,↓gZ,aa,ab,hx,w1,e1];refine ad (k+1) _ (by omega) (by omega) ?_;simp +contextual -implicitDefEqProofs (maxSteps:=10^7) only[go_sem,seval,↓gZ]
 ·have:k=ks.length:=by omega
  subst this;simp +contextual -implicitDefEqProofs (maxSteps:=10^7) only[go_sem,seval,↓gZ]
theorem Zdc:∀ (n:Nat) (p:Ze),p.nodes≤n→p.nodes≤1048577→Zj Xs Ms Yk [.d p.enc,.d p.enc] []=some ((.d (.bool true)),[])
 | 0,.mk o a p t ks,hn,_=>by simp[Ze.nodes] at hn
 | n+1,.mk o a p t ks,hn,hb=>by
  have hl:=ZjD ks;have aa : nL ks≤1048576:=by simp only[Ze.nodes] at hb;simp only[nL];omega
  have e1:=ZjG ks (by omega) (fun k ab=>by
   obtain⟨i,hi⟩:=Lw.1 ab;have:=UK hi;exact Zdc n k (Wi hn hi) (by simp only[nL] at aa;omega))
  rw[Ze.enc_mk];refine cE ?_;simp +contextual -implicitDefEqProofs (maxSteps:=10^7) only[go_sem,seval,↓gZ,ZcD,e1,bNe,bne_self_eq_false]
theorem ZhY (o a q:Int) (t:Bool) (ks:List Ze) (h:nL ks≤1048576):Zj Xs Ms Yk [.d (.agg [J o,J a,J q,.bool t,.sl (ks.map Ze.enc)]),.d (.agg [J o,J a,J q,.bool t,.sl (ks.map Ze.enc)])] []=some ((.d (.bool true)),[]):=by
 have:=Zdc _ (.mk o a q t ks) (Kf _) (by simp only[Ze.nodes,nL] at h ⊢;omega)
 rwa [Ze.enc_mk] at this
mutual
def Zmo:Ze→Int→Ze
 | .mk _ _ _ _ ks,k=>.mk k (k+1) (k+1+1) (decide ((k+1+1+1).tmod 3=0)) (Zca ks (k+1+1+1+1))
def Zca:List Ze→Int→List Ze
 | [],_=>[]
 | p :: r,k=>Zmo p k :: Zca r (k+((4*p.nodes:Nat):Int))
end
def plC (p:Ze):Nat:=4*p.nodes
theorem Zf9:∀ (l:List Ze) (k:Int),Zca l k=Zb1 Zmo plC l k
 | [],_=>by rw[Zca];rfl
 | p :: r,k=>by rw[Zca,Zb1,Zf9 r];rfl
theorem Zit:∀ l:List Ze,Xc plC l=4*nL l
 | []=>rfl
 | p :: r=>by rw[Xc,Zit r];simp only[plC,nL,Ze.nodes.nodesL];omega
theorem Zga (ks:List Ze) (hk:nL ks≤4194304) (ih:∀ x∈ks,∀ o a p t kk,x=.mk o a p t kk→∀ K:Int,0≤K→K+((4*nL kk:Nat):Int)≤281474976710656→Zj Xs Ms ZI [.own 0,(.d (J K))] [.tree 5 5 (kk.map Ze.enc) none]=some ((.d (J (K+((4*nL kk:Nat):Int)))),[.tree 5 5 ((Zca kk K).map Ze.enc) none])) (k:Int) (h0:0≤k) (h1:k+((4*nL ks:Nat):Int)≤281474976710656) :
  Zj Xs Ms ZI [.own 0,(.d (J k))] [.tree 5 5 (ks.map Ze.enc) none]=some ((.d (J (k+((4*nL ks:Nat):Int)))),[.tree 5 5 ((Zca ks k).map Ze.enc) none]):=by
 have af:=Zit ks;have am:=ZjD ks;refine cE ?_;simp +contextual -implicitDefEqProofs (maxSteps:=10^7) only[go_sem,seval,↓gZ,Je];refine Wt Xs Ms (st0:=?st0) (α:=Nat) (fun i=>[(5,.d (J (i:Int))),(1,.d (J (k+(Xc plC (ks.take i):Nat))))]) (fun i=>[(0,.tree 5 5 ((Zfs Zmo plC k ks i).map Ze.enc) none)]) (fun i=>i≤ks.length) (fun i=>ks.length-i) 0 ?hc (by omega) ?h0 ?step
 case hc=>simp +contextual -implicitDefEqProofs (maxSteps:=10^7) only[go_sem,seval,↓gZ]<;>exact rfl
 case h0=>simp only[Zon,List.take_zero,Xc,LF,Int.add_zero];rfl
 case step=>
  intro i hi ag;have ah:=Zpz Zmo plC k hi;have an:=Zb9 plC ks i;by_cases ad:i<ks.length
  ·obtain⟨x,hx⟩:=QN ad;have aa : (i:Int)<(ks.length:Int):=by omega
   have w1:=ZQ (k:=i) (by omega);have hg:=ZpA Zmo plC k hx;have hs:=Zom Ze.enc Zmo plC k hx;have ai:=Zmn (c:=plC) hx;have aj:=Zb9 plC ks (i+1);have ak:=ih x (Kr hx);obtain⟨o,a,p,t,kk⟩:=x;have al:plC (.mk o a p t kk)=4+4*nL kk:=by simp only[plC,Ze.nodes,nL];omega
   have ae:k+(Xc plC (ks.take (i+1)):Nat)=k+(Xc plC (ks.take i):Nat)+1+1+1+1+((4*nL kk:Nat):Int):=by rw[ai,al];push_cast;omega
   generalize hK:k+(Xc plC (ks.take i):Nat)=K at hs ae ⊢;have e1:=ak o a p t kk rfl (K+1+1+1+1) (by omega) (by omega);have v1:=wi (K+1) (by omega) (by omega);have v2:=wi (K+1+1) (by omega) (by omega);have v3:=wi (K+1+1+1) (by omega) (by omega);have v4:=wi (K+1+1+1+1) (by omega) (by omega);simp only[Zmo,Ze.enc_mk] at hs;generalize nL kk=nk at *;simp +contextual -implicitDefEqProofs (maxSteps:=10^7) only[go_sem,seval,↓gZ,aa,ad,hg,w1,ah,v1,v2,v3,v4,e1,List.length_set,KP,List.set_set];refine ag (i+1) _ (by omega) (by omega) ?_;simp +contextual -implicitDefEqProofs (maxSteps:=10^7) only[go_sem,seval,↓gZ,hs,ae]
  ·have:i=ks.length:=by omega
   subst this;rw[ZpB,List.take_length,af,← Zf9];have ab:(Zca ks k).length=ks.length:=by rw[Zf9,ZaN]
   generalize nL ks=nk at *;simp +contextual -implicitDefEqProofs (maxSteps:=10^7) only[go_sem,seval,↓gZ,ab]
theorem ZaF:∀ (n:Nat) (ks:List Ze),nL ks≤n→nL ks≤4194304→∀ k:Int,0≤k→k+((4*nL ks:Nat):Int)≤281474976710656→Zj Xs Ms ZI [.own 0,(.d (J k))] [.tree 5 5 (ks.map Ze.enc) none]=some ((.d (J (k+((4*nL ks:Nat):Int)))),[.tree 5 5 ((Zca ks k).map Ze.enc) none])
 | n,ks,hn,hb,k,h0,h1=>Zga ks hb (fun x hx o a p t kk he K g0 g1=>by
   obtain⟨i,hi⟩:=Lw.1 hx;have hy:=UK hi;subst he;have aa:nL kk<nL ks:=by simp only[Ze.nodes,nL] at hy ⊢;omega
   match n,hn with
   | 0,hn=>omega
   | n+1,hn=>exact ZaF n kk (by omega) (by omega) K g0 (by omega)) k h0 h1
theorem ZhZ (o a p:Int) (t:Bool) (ks:List Ze) (hk:nL ks≤4194304) (k:Int) (h0:0≤k) (h1:k≤1099511627776):Zj Xs Ms Qc [.agg [(.d (J o)),(.d (J a)),(.d (J p)),(.d (.bool t)),.own 0],(.d (J k))] [.tree 5 5 (ks.map Ze.enc) none]=some ((.d (J (k+((4*nL ks:Nat):Int)))),[.tree 5 5 ((Zca ks k).map Ze.enc) none]):=by
 have e1:=ZaF _ ks (Kf _) hk k h0 (by omega);generalize nL ks=nk at *;refine cE ?_;simp +contextual -implicitDefEqProofs (maxSteps:=10^7) only[go_sem,seval,↓gZ,JZ,e1]
end Go.Proofs.Ytighjmleicikhaa
