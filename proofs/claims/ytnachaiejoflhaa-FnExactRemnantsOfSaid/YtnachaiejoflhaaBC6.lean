/- Own text. -/
import Derived.Test.YtnachaiejoflhaaBCode
import Derived.Test.YtnachaiejoflhaaAbsParts
import Derived.Test.YtnachaiejoflhaaAbsOkD
import Derived.Test.YtnachaiejoflhaaBC2
import Derived.Test.YtnachaiejoflhaaBC5
namespace Go.Proofs.Ytnachaiejoflhaa
open Go Go.Abs Go.Abs.E Go.Abs.L
open Nat (reduceMul reduceSub reduceLeDiff reduceEqDiff)
open Int (reduceLE reduceEq reduceToNat reduceNeg)
set_option linter.unusedSimpArgs false
set_option linter.unusedVariables false
set_option maxRecDepth 20000
set_option maxHeartbeats 4000000
def ZoU:List Zo→Int
 | []=>0
 | x :: l=>x.W*x.H+ZoU l
theorem Zh7 (q:Zo):∀ (n:Int) (l:List Box),ZoU (Wt q n l)=Yh l
 | n,[]=>rfl
 | n,b :: l=>by simp only[Wt,ZoU,Yh,Zh7 q (n+1) l,Ziu]
theorem ZmE (q:Zo):∀ (n:Int) (l:List Box) (i:Nat) (x:Zo),(Wt q n l)[i]?=some x→∃ b,l[i]?=some b∧x=Ziu q b (n+i)
 | n,[],i,x,h=>by simp[Wt] at h
 | n,b :: l,0,x,h=>by
  simp only[Wt,Lo,Option.some.injEq] at h;exact⟨b,rfl,by rw[← h];simp⟩
 | n,b :: l,i+1,x,h=>by
  simp only[Wt,Le] at h;obtain⟨c,h1,h2⟩:=ZmE q (n+1) l i x h;refine⟨c,by simpa using h1,?_⟩;rw[h2];congr 1;omega
theorem Zn9 {q:Zo} {k:ZI} {p:Ze} {Zg aa:Int} (ab:ZeU q k p Zg aa≠[]) :
  VS k p=true∧1≤Zg∧Zg≤200∧1≤aa∧aa≤9999∧(ZeU q k p Zg aa).length≤255∧VPc q ∧
  (∀ (i:Nat) x,(ZeU q k p Zg aa)[i]?=some x→Zg≤x.W∧Zg≤x.H∧x.Label=aa+i∧VPc x) ∧
  ZoU (ZeU q k p Zg aa)+Yh (lostL k p Zg)+Yh (((Q0 k p).filterMap Xv).map Xz.Box)=q.W*q.H ∧
  (∀ b∈((Q0 k p).filterMap Xv).map Xz.Box,VB b):=by
 unfold ZeU at ab ⊢;by_cases hc:(VPc q∧YU q k p)∧1≤Zg∧Zg≤200∧1≤aa∧aa≤9999∧(Q4 k p Zg).length≤10000-aa
 ·rw[Kt hc] at ab ⊢;obtain⟨⟨hq,hg⟩,h1,h2,h3,h4,h5⟩:=hc;have hv:=hg.1;obtain⟨b,hb,ai,ag,ah,ad,ae⟩:=Ws hv;refine⟨hv,h1,h2,h3,h4,by rw[ZbL];exact ZeT _ _ _,hq,fun i x hx=>?_,?_,fun c hc=>?_⟩
  ·obtain⟨c,hc,rfl⟩:=ZmE q aa _ i x hx;have hi:i<(Q4 k p Zg).length:=(Kd.1 hc).1;have af:=Zl4 (Zg:=Zg) hv c (Kg hc);have hk:Zg≤c.W∧Zg≤c.H:=by
    have:=Kg hc;unfold Q4 at this;obtain⟨d,_,hd⟩:=List.mem_filterMap.1 this;unfold YV at hd;split at hd
    ·cases hd;assumption
    ·cases hd
   refine⟨hk.1,hk.2,rfl,ZnA hq af.1 ?_ (by omega) (by omega)⟩;rw[← hg.2.1,← hg.2.2.1];exact af.2
  ·rw[Zh7];unfold Q4 lostL;have:=ZbM Zg ((Q0 k p).filterMap Xw);have h6:=ZbJ (ps:=k.Panes) (b:=b) (x:=0) (y:=0) (w:=k.W) (h:=k.H);rw[ae,J3] at *;rw[Uq,← hg.2.1,← hg.2.2.1];omega
  ·obtain⟨d,hd,rfl⟩:=KX.1 hc;rw[ae,Uq] at hd;exact Zaz (p:=p) ag ad d hd
 ·rw[Ko hc] at ab;exact absurd rfl ab
end Go.Proofs.Ytnachaiejoflhaa
namespace Go.Proofs.Ytnachaiejoflhaa
open Go Go.Abs Go.Abs.E Go.Abs.L
open Nat (reduceMul reduceSub reduceLeDiff reduceEqDiff)
open Int (reduceLE reduceEq reduceToNat reduceNeg)
set_option linter.unusedSimpArgs false
set_option linter.unusedVariables false
set_option maxRecDepth 20000
set_option maxHeartbeats 4000000
abbrev nL (ks:List Ze):Nat:=Ze.nodes.nodesL ks
theorem Zk6:∀ ks:List Ze,ks.length≤nL ks
 | []=>Kf _
 | .mk o a p t q :: r=>by have:=Zk6 r;simp only[nL,Ze.nodes.nodesL,Ze.nodes,Kp] at this ⊢;omega
theorem ZmF:∀ ks:List Ze,nL ks=ks.length+ZP (fun p:Ze=>p.nodes-1) ks
 | []=>rfl
 | .mk o a p t q :: r=>by have:=ZmF r;simp only[nL,Ze.nodes.nodesL,Ze.nodes,Kp,ZP] at this ⊢;omega
theorem Zk7 (ks:List Ze) (hk:ks.length≤maxLen) (ih:∀ k∈ks,∀ left:Int,0≤left→left≤1048576→Zi Xs Ms YA [.d k.enc,(.d (J left))] []=some ((.d (J (szV left (k.nodes-1)))),[])) (left:Int) (h0:0≤left) (hl:left≤1048576) :
  Zi Xs Ms WW [(.d (.sl (ks.map Ze.enc))),(.d (J left))] []=some ((.d (J (szV left (nL ks)))),[]):=by
 have ag : (ks.length:Int)≤9223372036854775807:=by unfold maxLen at hk;omega
 have w:=wi (left-ks.length) (by omega) (by omega);have hb:=ZmF ks;by_cases aa:left-(ks.length:Int)<0
 ·rw[UU (by omega)];refine cE ?_;simp +contextual -implicitDefEqProofs (maxSteps:=10^7) only[go_sem,seval,↓gZ,Ju,w,aa]
 ·refine cE ?_;simp +contextual -implicitDefEqProofs (maxSteps:=10^7) only[go_sem,seval,↓gZ,Ju,w,aa];refine LO (α:=Nat×Int) (fun a=>[(5,.d (J (a.1:Int))),(1,.d (J a.2))]) (fun _=>[]) (fun a=>a.1≤ks.length∧0≤a.2∧a.2≤left∧szV left (nL ks)=szV a.2 (ZP (fun p:Ze=>p.nodes-1) (ks.drop a.1))) (fun a=>ks.length-a.1) (0,left-ks.length) ⟨by simp,by simp only;omega,by simp only;omega,by simp only[List.drop_zero];unfold szV;split<;>split<;>omega⟩ ?_;intro⟨k,m⟩ ⟨hk1,hm0,hml,hp⟩ ih2;simp only at hk1 hm0 hml hp ih2 ⊢;by_cases ad:k<ks.length
  ·obtain⟨x,hx⟩:=Qa ad;have ab : (k:Int)<(ks.length:Int):=by omega
   have w1:=ZA (k:=k) (by omega);have e1:=ih x (Kg hx) m hm0 (by omega);rw[ZqX hx] at hp;obtain⟨o,a,q,t,ae⟩:=x;rw[Ze.enc_mk] at e1;generalize (Ze.mk o a q t ae).nodes-1=nx at e1 hp;by_cases hy:(nx:Int)≤m
   ·rw[WI hy] at e1;have af:¬m-(nx:Int)<0:=by omega
    simp +contextual -implicitDefEqProofs (maxSteps:=10^7) only[go_sem,seval,↓gZ,ab,ad,hx,w1,e1,af];refine ih2 (k+1,m-nx) _ ⟨by simp only;omega,by simp only;omega,by simp only;omega,?_⟩ (by simp only;omega) ?_
    ·rw[hp];simp only;unfold szV;split<;>split<;>omega
    ·simp +contextual -implicitDefEqProofs (maxSteps:=10^7) only[go_sem,seval,↓gZ]
   ·rw[UU hy] at e1;rw[hp,UU (by omega)];simp +contextual -implicitDefEqProofs (maxSteps:=10^7) only[go_sem,seval,↓gZ,ab,ad,hx,w1,e1]
  ·have:k=ks.length:=by omega
   subst this;rw[List.drop_length] at hp;rw[hp,WI (by simp only[ZP];omega)];have hz:m-((ZP (fun p:Ze=>p.nodes-1) []:Nat):Int)=m:=by simp[ZP]
   rw[hz];simp +contextual -implicitDefEqProofs (maxSteps:=10^7) only[go_sem,seval,↓gZ]
theorem Zew:∀ (n:Nat) (p:Ze),p.nodes≤n→p.ok→∀ left:Int,0≤left→left≤1048576→Zi Xs Ms YA [.d p.enc,(.d (J left))] []=some ((.d (J (szV left (p.nodes-1)))),[])
 | 0,.mk o a p t ks,hn,_,_,_,_=>by simp[Ze.nodes] at hn
 | n+1,.mk o a p t ks,hn,hok,left,h0,hl=>by
  cases hok with
  | mk _ _ _ hk hks=>
   have e1:=Zk7 ks hk (fun k aa=>by
    obtain⟨i,hi⟩:=Lu.1 aa;exact Zew n k (Wu hn hi) (hks k aa)) left h0 hl
   have ab:(Ze.mk o a p t ks).nodes-1=nL ks:=by simp only[Ze.nodes,nL];omega
   rw[ab,Ze.enc_mk];by_cases hy:((nL ks:Nat):Int)≤left
   ·rw[WI hy] at e1 ⊢;have ad:¬left-((nL ks:Nat):Int)<0:=by omega
    generalize nL ks=m at *;refine cE ?_;simp +contextual -implicitDefEqProofs (maxSteps:=10^7) only[go_sem,seval,↓gZ,ZaX,e1,ad]
   ·rw[UU hy] at e1 ⊢;refine cE ?_;simp +contextual -implicitDefEqProofs (maxSteps:=10^7) only[go_sem,seval,↓gZ,ZaX,e1]
theorem ZmG (p:Ze) (aa:p.ok) (left:Int) (h0:0≤left) (hl:left≤1048576):Zi Xs Ms YA [.d p.enc,(.d (J left))] []=some ((.d (J (szV left (p.nodes-1)))),[]):=Zew _ p (Kf _) aa left h0 hl
def Zf0:D:=.agg [J 0,J 0,J 0,.bool false,.sl []]
theorem Zk8 (ks:List Ze) (hk:ks.length≤1048576) (ih:∀ k∈ks,∀ o a p t ab,k=.mk o a p t ab→Zi Xs Ms Xa [.d k.enc] []=some (.agg [(.d (J o)),(.d (J a)),(.d (J p)),(.d (.bool t)),.own 0],[.tree 5 5 (ab.map Ze.enc) none])) :
  Zi Xs Ms WY [(.d (.sl (ks.map Ze.enc)))] []=some (.own 0,[.tree 5 5 (ks.map Ze.enc) none]):=by
 have hm:(ks.length:Int)*56≤140737488355328∧(ks.length:Int)≤140737488355328:=by omega
 refine cE ?_;simp +contextual -implicitDefEqProofs (maxSteps:=10^7) only[go_sem,seval,↓gZ,Zcc,hm,ZB];refine WF Xs Ms (st0:=?st0) (α:=Nat) (fun k=>[(4,.d (J (k:Int)))]) (fun k=>[(0,.tree 5 5 (Jr Ze.enc Zf0 ks k) none)]) (fun k=>k≤ks.length) (fun k=>ks.length-k) 0 ?hc (by omega) ?h0 ?step
 case hc=>simp +contextual -implicitDefEqProofs (maxSteps:=10^7) only[go_sem,seval,↓gZ]<;>exact rfl
 case h0=>rw[Zdt];rfl
 case step=>
  intro k af ag;have ah:=Zfc Ze.enc Zf0 af;by_cases ad:k<ks.length
  ·obtain⟨x,hx⟩:=Qa ad;have ae : (k:Int)<(ks.length:Int):=by omega
   have w1:=ZA (k:=k) (by omega);have aa:=Zfd (f:=Ze.enc) (z:=Zf0) hx;obtain⟨o,a,q,t,ab⟩:=x;have e1:=ih _ (Kg hx) o a q t ab rfl;rw[Ze.enc_mk] at e1 aa;have z1:=Zfe (f:=Ze.enc) (z:=Zf0) ad;have z2:Zf0.notSl=true:=rfl;have z3:Zf0.cells.length=5:=rfl;have z4:Xi Zf0 0 [J o,J a,J q,.bool t,.sl (ab.map Ze.enc)]=.agg [J o,J a,J q,.bool t,.sl (ab.map Ze.enc)]:=rfl;have z5:Zf0.isAgg=true:=rfl;simp +contextual -implicitDefEqProofs (maxSteps:=10^7) only[go_sem,seval,↓gZ,ae,ad,hx,w1,e1,ah,z1,z2,z3,z4,z5,aa];refine ag (k+1) _ (by omega) (by omega) ?_;simp +contextual -implicitDefEqProofs (maxSteps:=10^7) only[go_sem,seval,↓gZ,aa]
  ·have:k=ks.length:=by omega
   subst this;rw[Zfb];simp +contextual -implicitDefEqProofs (maxSteps:=10^7) only[go_sem,seval,↓gZ]
theorem Zex:∀ (n:Nat) (p:Ze),p.nodes≤n→p.nodes≤1048577→∀ o a q t ks,p=.mk o a q t ks→Zi Xs Ms Xa [.d p.enc] []=some (.agg [(.d (J o)),(.d (J a)),(.d (J q)),(.d (.bool t)),.own 0],[.tree 5 5 (ks.map Ze.enc) none])
 | 0,.mk o a p t ks,hn,_,_,_,_,_,_,_=>by simp[Ze.nodes] at hn
 | n+1,.mk o a p t ks,hn,hb,o',a',q',t',ks',he=>by
  cases he;have hl:=Zk6 ks;have aa : nL ks≤1048576:=by simp only[Ze.nodes] at hb;simp only[nL];omega
  have e1:=Zk8 ks (by omega) (fun k ab o1 a1 p1 t1 ad ae=>by
   obtain⟨i,hi⟩:=Lu.1 ab;have:=UK hi;exact Zex n k (Wu hn hi) (by simp only[nL] at aa;omega) o1 a1 p1 t1 ad ae)
  rw[Ze.enc_mk];refine cE ?_;simp +contextual -implicitDefEqProofs (maxSteps:=10^7) only[go_sem,seval,↓gZ,Zdz,e1]
theorem ZmH (o a q:Int) (t:Bool) (ks:List Ze) (h:nL ks≤1048576):Zi Xs Ms Xa [.d (.agg [J o,J a,J q,.bool t,.sl (ks.map Ze.enc)])] []=some (.agg [(.d (J o)),(.d (J a)),(.d (J q)),(.d (.bool t)),.own 0],[.tree 5 5 (ks.map Ze.enc) none]):=by
 have:=Zex _ (.mk o a q t ks) (Kf _) (by simp only[Ze.nodes,nL] at h ⊢;omega) o a q t ks rfl
 rwa [Ze.enc_mk] at this
theorem Zk9 (ks:List Ze) (hk:ks.length≤1048576) (ih:∀ k∈ks,Zi Xs Ms YC [.d k.enc,.d k.enc] []=some ((.d (.bool true)),[])) :
  Zi Xs Ms WZ [(.d (.sl (ks.map Ze.enc))),(.d (.sl (ks.map Ze.enc)))] []=some ((.d (.bool true)),[]):=by
 refine cE ?_;simp +contextual -implicitDefEqProofs (maxSteps:=10^7) only[go_sem,seval,↓gZ,Zcd];refine LO (α:=Nat) (fun k=>[(5,.d (J (k:Int)))]) (fun _=>[]) (fun k=>k≤ks.length) (fun k=>ks.length-k) 0 (by omega) ?_;intro k ae ad;by_cases ab:k<ks.length
 ·obtain⟨x,hx⟩:=Qa ab;have aa : (k:Int)<(ks.length:Int):=by omega
  have w1:=ZA (k:=k) (by omega);have e1:=ih x (Kg hx);obtain⟨o,a,q,t,af⟩:=x;rw[Ze.enc_mk] at e1;simp +contextual -implicitDefEqProofs (maxSteps:=10^7) only[go_sem,seval,↓gZ,aa,ab,hx,w1,e1];refine ad (k+1) _ (by omega) (by omega) ?_;simp +contextual -implicitDefEqProofs (maxSteps:=10^7) only[go_sem,seval,↓gZ]
 ·have:k=ks.length:=by omega
  subst this;simp +contextual -implicitDefEqProofs (maxSteps:=10^7) only[go_sem,seval,↓gZ]
theorem Zey:∀ (n:Nat) (p:Ze),p.nodes≤n→p.nodes≤1048577→Zi Xs Ms YC [.d p.enc,.d p.enc] []=some ((.d (.bool true)),[])
 | 0,.mk o a p t ks,hn,_=>by simp[Ze.nodes] at hn
 | n+1,.mk o a p t ks,hn,hb=>by
  have hl:=Zk6 ks;have aa : nL ks≤1048576:=by simp only[Ze.nodes] at hb;simp only[nL];omega
  have e1:=Zk9 ks (by omega) (fun k ab=>by
   obtain⟨i,hi⟩:=Lu.1 ab;have:=UK hi;exact Zey n k (Wu hn hi) (by simp only[nL] at aa;omega))
  rw[Ze.enc_mk];refine cE ?_;simp +contextual -implicitDefEqProofs (maxSteps:=10^7) only[go_sem,seval,↓gZ,ZdB,e1,bNe,bne_self_eq_false]
theorem ZiN (o a q:Int) (t:Bool) (ks:List Ze) (h:nL ks≤1048576):Zi Xs Ms YC [.d (.agg [J o,J a,J q,.bool t,.sl (ks.map Ze.enc)]),.d (.agg [J o,J a,J q,.bool t,.sl (ks.map Ze.enc)])] []=some ((.d (.bool true)),[]):=by
 have:=Zey _ (.mk o a q t ks) (Kf _) (by simp only[Ze.nodes,nL] at h ⊢;omega)
 rwa [Ze.enc_mk] at this
mutual
def Zoa:Ze→Int→Ze
 | .mk _ _ _ _ ks,k=>.mk k (k+1) (k+1+1) (decide ((k+1+1+1).tmod 3=0)) (Zc0 ks (k+1+1+1+1))
def Zc0:List Ze→Int→List Ze
 | [],_=>[]
 | p :: r,k=>Zoa p k :: Zc0 r (k+((4*p.nodes:Nat):Int))
end
def plC (p:Ze):Nat:=4*p.nodes
theorem Zh8:∀ (l:List Ze) (k:Int),Zc0 l k=JH Zoa plC l k
 | [],_=>by rw[Zc0];rfl
 | p :: r,k=>by rw[Zc0,JH,Zh8 r];rfl
theorem Zj9:∀ l:List Ze,ZP plC l=4*nL l
 | []=>rfl
 | p :: r=>by rw[ZP,Zj9 r];simp only[plC,nL,Ze.nodes.nodesL];omega
theorem Zh9 (ks:List Ze) (hk:nL ks≤4194304) (ih:∀ x∈ks,∀ o a p t kk,x=.mk o a p t kk→∀ K:Int,0≤K→K+((4*nL kk:Nat):Int)≤281474976710656→Zi Xs Ms ZN [.own 0,(.d (J K))] [.tree 5 5 (kk.map Ze.enc) none]=some ((.d (J (K+((4*nL kk:Nat):Int)))),[.tree 5 5 ((Zc0 kk K).map Ze.enc) none])) (k:Int) (h0:0≤k) (h1:k+((4*nL ks:Nat):Int)≤281474976710656) :
  Zi Xs Ms ZN [.own 0,(.d (J k))] [.tree 5 5 (ks.map Ze.enc) none]=some ((.d (J (k+((4*nL ks:Nat):Int)))),[.tree 5 5 ((Zc0 ks k).map Ze.enc) none]):=by
 have af:=Zj9 ks;have am:=Zk6 ks;refine cE ?_;simp +contextual -implicitDefEqProofs (maxSteps:=10^7) only[go_sem,seval,↓gZ,JK];refine WF Xs Ms (st0:=?st0) (α:=Nat) (fun i=>[(5,.d (J (i:Int))),(1,.d (J (k+(ZP plC (ks.take i):Nat))))]) (fun i=>[(0,.tree 5 5 ((Zfg Zoa plC k ks i).map Ze.enc) none)]) (fun i=>i≤ks.length) (fun i=>ks.length-i) 0 ?hc (by omega) ?h0 ?step
 case hc=>simp +contextual -implicitDefEqProofs (maxSteps:=10^7) only[go_sem,seval,↓gZ]<;>exact rfl
 case h0=>simp only[Zj7,LL,ZP,Lg,LF];rfl
 case step=>
  intro i hi ag;have ah:=Zmz Zoa plC k hi;have an:=X3 plC ks i;by_cases ad:i<ks.length
  ·obtain⟨x,hx⟩:=Qa ad;have aa : (i:Int)<(ks.length:Int):=by omega
   have w1:=ZA (k:=i) (by omega);have hg:=ZmA Zoa plC k hx;have hs:=Zj6 Ze.enc Zoa plC k hx;have ai:=Zdw (c:=plC) hx;have aj:=X3 plC ks (i+1);have ak:=ih x (Kg hx);obtain⟨o,a,p,t,kk⟩:=x;have al:plC (.mk o a p t kk)=4+4*nL kk:=by simp only[plC,Ze.nodes,nL];omega
   have ae:k+(ZP plC (ks.take (i+1)):Nat)=k+(ZP plC (ks.take i):Nat)+1+1+1+1+((4*nL kk:Nat):Int):=by rw[ai,al];push_cast;omega
   generalize hK:k+(ZP plC (ks.take i):Nat)=K at hs ae ⊢;have e1:=ak o a p t kk rfl (K+1+1+1+1) (by omega) (by omega);have v1:=wi (K+1) (by omega) (by omega);have v2:=wi (K+1+1) (by omega) (by omega);have v3:=wi (K+1+1+1) (by omega) (by omega);have v4:=wi (K+1+1+1+1) (by omega) (by omega);simp only[Zoa,Ze.enc_mk] at hs;generalize nL kk=nk at *;simp +contextual -implicitDefEqProofs (maxSteps:=10^7) only[go_sem,seval,↓gZ,aa,ad,hg,w1,ah,v1,v2,v3,v4,e1,List.length_set,KO,List.set_set];refine ag (i+1) _ (by omega) (by omega) ?_;simp +contextual -implicitDefEqProofs (maxSteps:=10^7) only[go_sem,seval,↓gZ,hs,ae]
  ·have:i=ks.length:=by omega
   subst this;rw[ZmB,List.take_length,af,← Zh8];have ab:(Zc0 ks k).length=ks.length:=by rw[Zh8,UW]
   generalize nL ks=nk at *;simp +contextual -implicitDefEqProofs (maxSteps:=10^7) only[go_sem,seval,↓gZ,ab]
theorem Zbh:∀ (n:Nat) (ks:List Ze),nL ks≤n→nL ks≤4194304→∀ k:Int,0≤k→k+((4*nL ks:Nat):Int)≤281474976710656→Zi Xs Ms ZN [.own 0,(.d (J k))] [.tree 5 5 (ks.map Ze.enc) none]=some ((.d (J (k+((4*nL ks:Nat):Int)))),[.tree 5 5 ((Zc0 ks k).map Ze.enc) none])
 | n,ks,hn,hb,k,h0,h1=>Zh9 ks hb (fun x hx o a p t kk he K g0 g1=>by
   obtain⟨i,hi⟩:=Lu.1 hx;have hy:=UK hi;subst he;have aa:nL kk<nL ks:=by simp only[Ze.nodes,nL] at hy ⊢;omega
   match n,hn with
   | 0,hn=>omega
   | n+1,hn=>exact Zbh n kk (by omega) (by omega) K g0 (by omega)) k h0 h1
theorem ZiO (o a p:Int) (t:Bool) (ks:List Ze) (hk:nL ks≤4194304) (k:Int) (h0:0≤k) (h1:k≤1099511627776):Zi Xs Ms Ql [.agg [(.d (J o)),(.d (J a)),(.d (J p)),(.d (.bool t)),.own 0],(.d (J k))] [.tree 5 5 (ks.map Ze.enc) none]=some ((.d (J (k+((4*nL ks:Nat):Int)))),[.tree 5 5 ((Zc0 ks k).map Ze.enc) none]):=by
 have e1:=Zbh _ ks (Kf _) hk k h0 (by omega);generalize nL ks=nk at *;refine cE ?_;simp +contextual -implicitDefEqProofs (maxSteps:=10^7) only[go_sem,seval,↓gZ,ZaY,e1]
theorem Zfh (k:Int):Zi Xs Ms ZO [.own 0,(.d (J k))] [.row 4 [] true false]=some ((.d (J k)),[.row 4 [] true false]):=by
 refine cE ?_;simp +contextual -implicitDefEqProofs (maxSteps:=10^7) only[go_sem,seval,↓gZ,Wc];refine LO (α:=Unit) (fun _=>[]) (fun _=>[]) (fun _=>True) (fun _=>0) () trivial ?_;intro _ _ _;simp +contextual -implicitDefEqProofs (maxSteps:=10^7) only[go_sem,seval,↓gZ]
theorem ZmI {α:Type} {f:α→Nat} {c:Nat}:∀ {l:List α},(∀ x∈l,f x≤c)→ZP f l≤c*l.length
 | [],_=>by simp[ZP]
 | x :: l,h=>by
  have h1:=h x (by simp);have h2:=ZmI (f:=f) (c:=c) (l:=l) fun y hy=>h y (by simp[hy]);simp only[ZP,Kp,Nat.mul_add];omega
theorem Zsv (q:Zo) (k:ZI) (p:Ze) (Zg aa:Int):(ZeU q k p Zg aa).length≤255∧∀ x∈ZeU q k p Zg aa,pcSz x≤6:=by
 by_cases h:ZeU q k p Zg aa=[]
 ·rw[h];exact⟨by simp,fun x hx=>by cases hx⟩
 ·obtain⟨_,_,_,_,_,h1,_,h2,_⟩:=Zn9 h;refine⟨h1,fun x hx=>?_⟩;obtain⟨i,hi⟩:=Lc hx;have h3:=(h2 i x hi).2.2.2.1;exact h3.2.2.2.2.2.2
theorem ZaU (q:Zo) (k:ZI) (p:Ze) (Zg aa:Int) (hq:q.ok) (hk:k.ok) (hp:p.ok):Zi Xs Ms QK [.d q.enc,.d k.enc,.d p.enc,(.d (J Zg)),(.d (J aa))] []=some ((.d (.bool true)),[]):=by
 obtain⟨qL,qW,qH,qF⟩:=q;obtain⟨kW,kH,kP⟩:=k;obtain⟨po,pa,pp,pt,pk⟩:=p;have e1:=Zk3 qL qW qH qF hq.2.2.2.1 1048576 (by decide) (by decide);rw[Ze.enc_mk];by_cases s1:(qF.length:Int)≤1048576
 ·rw[WI s1] at e1;have y1:¬(1048576:Int)-(qF.length:Int)<0:=by omega
  have e2:=ZmC kW kH kP hk.2.2.1 (1048576-qF.length) (by omega) (by omega);by_cases s2:(kP.length:Int)≤1048576-qF.length
  ·rw[WI s2] at e2;have y2:¬(1048576:Int)-(qF.length:Int)-(kP.length:Int)<0:=by omega
   have e3:=ZmG _ hp (1048576-qF.length-kP.length) (by omega) (by omega);have ab:(Ze.mk po pa pp pt pk).nodes-1=nL pk:=by simp only[Ze.nodes,nL];omega
   rw[Ze.enc_mk,ab] at e3;by_cases s3:((nL pk:Nat):Int)≤1048576-qF.length-kP.length
   ·rw[WI s3] at e3;have y3:¬(1048576:Int)-(qF.length:Int)-(kP.length:Int)-((nL pk:Nat):Int)<0:=by omega
    have t1:=Zk4 qL qW qH qF (by omega);have t2:=ZmD kW kH kP (by omega);have t3:=ZmH po pa pp pt pk (by omega);have c1:=Zf8 qL qW qH qF kW kH kP (.mk po pa pp pt pk) Zg aa (by omega) (by omega) hq.2.1 hq.2.2.1;obtain⟨o,ho,c2⟩:=Zf7 qL qW qH qF kW kH kP (.mk po pa pp pt pk) Zg aa;have q1:=Zb7 qL qW qH qF (by omega);have q2:=ZiL kW kH kP (by omega);have q3:=ZiN po pa pp pt pk (by omega);have m1:=Zh6 qL qW qH qF (by omega) 1 (by decide) (by decide);have m2:=ZiM kW kH kP (by omega) (1+((4*qF.length:Nat):Int)) (by omega) (by omega);have m3:=ZiO po pa pp pt pk (by omega) (1+((4*qF.length:Nat):Int)+((4*kP.length:Nat):Int)) (by omega) (by omega)
    have y4:¬1+((4*qF.length:Nat):Int)+((4*kP.length:Nat):Int)+((4*nL pk:Nat):Int)<0:=by omega
    obtain⟨r1,r2⟩:=Zsv ⟨qL,qW,qH,qF⟩ ⟨kW,kH,kP⟩ (.mk po pa pp pt pk) Zg aa;rw[Ze.enc_mk] at c1 c2;generalize ZeU ⟨qL,qW,qH,qF⟩ ⟨kW,kH,kP⟩ (.mk po pa pp pt pk) Zg aa=R at *;generalize nL pk=np at *;generalize 1+((4*qF.length:Nat):Int)=g1 at *;generalize g1+((4*kP.length:Nat):Int)=g2 at *;generalize g2+((4*np:Nat):Int)=g3 at *;have q4:=Zf9 R (by omega) fun x hx=>by have:=r2 x hx;omega
    have b1:=ZmI r2;have b2:=Zj8 R;have h4:=Zgb R (by omega) (by omega) 1 (by decide) (by decide);have y5:¬(1:Int)+(ZP pcN R:Nat)<0:=by omega
    rcases ho with rfl | ⟨rfl,rfl⟩
    ·have m4:=Zga R (by omega) (by omega) 1 (by decide) (by decide);generalize (1:Int)+(ZP pcN R:Nat)=g4 at *;generalize ZoT R 1=R2 at *;refine cE ?_;simp +contextual -implicitDefEqProofs (maxSteps:=10^7) only[go_sem,seval,↓gZ,Z6,e1,y1,e2,y2,e3,y3,t1,t2,t3,c1,c2,q1,q2,q3,q4,m1,m2,m3,y4,m4,h4,y5]
    ·have m4:=Zfh 1;simp only[LK,ZP,ZoT,JH,Lg,LF] at h4 q4 c1;refine cE ?_;simp +contextual -implicitDefEqProofs (maxSteps:=10^7) only[go_sem,seval,↓gZ,Z6,e1,y1,e2,y2,e3,y3,t1,t2,t3,c1,c2,q1,q2,q3,q4,m1,m2,m3,y4,m4,h4]
   ·rw[UU s3] at e3;refine cE ?_;simp +contextual -implicitDefEqProofs (maxSteps:=10^7) only[go_sem,seval,↓gZ,Z6,e1,y1,e2,y2,e3]
  ·rw[UU s2] at e2;refine cE ?_;simp +contextual -implicitDefEqProofs (maxSteps:=10^7) only[go_sem,seval,↓gZ,Z6,e1,y1,e2]
 ·rw[UU s1] at e1;refine cE ?_;simp +contextual -implicitDefEqProofs (maxSteps:=10^7) only[go_sem,seval,↓gZ,Z6,e1]
end Go.Proofs.Ytnachaiejoflhaa
