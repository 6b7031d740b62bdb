/- Own text. -/
import Derived.Test.YtnachaiejoflhaaDCode
import Derived.Test.YtnachaiejoflhaaAbsParts
import Derived.Test.YtnachaiejoflhaaDC4
import Derived.Test.YtnachaiejoflhaaDC6
import Derived.Test.YtnachaiejoflhaaAbsOkD
namespace Go.Proofs.Ytnachaiejoflhaa
open Go Go.Abs Go.Abs.E Go.Abs.L
open Nat (reduceMul reduceSub reduceLeDiff reduceEqDiff)
open Int (reduceLE reduceEq reduceToNat reduceNeg)
set_option linter.unusedSimpArgs false
set_option linter.unusedVariables false
set_option maxRecDepth 20000
set_option maxHeartbeats 4000000
abbrev nL (ks:List Ze):Nat:=Ze.nodes.nodesL ks
theorem Zmj:∀ ks:List Ze,ks.length≤nL ks
 | []=>Kg _
 | .mk o a p t q :: r=>by have:=Zmj r;simp only[nL,Ze.nodes.nodesL,Ze.nodes,Kp] at this ⊢;omega
theorem Zn0:∀ ks:List Ze,nL ks=ks.length+ZA (fun p:Ze=>p.nodes-1) ks
 | []=>rfl
 | .mk o a p t q :: r=>by have:=Zn0 r;simp only[nL,Ze.nodes.nodesL,Ze.nodes,Kp,ZA] at this ⊢;omega
theorem Zmk (ks:List Ze) (hk:ks.length≤maxLen) (ih:∀ k∈ks,∀ left:Int,0≤left→left≤1048576→Zh Xs Ms YJ [.d k.enc,(.d (J left))] []=some ((.d (J (szV left (k.nodes-1)))),[])) (left:Int) (h0:0≤left) (hl:left≤1048576) :
  Zh Xs Ms Ug [(.d (.sl (ks.map Ze.enc))),(.d (J left))] []=some ((.d (J (szV left (nL ks)))),[]):=by
 have ag : (ks.length:Int)≤9223372036854775807:=by unfold maxLen at hk;omega
 have w:=wi (left-ks.length) (by omega) (by omega);have hb:=Zn0 ks;by_cases aa:left-(ks.length:Int)<0
 ·rw[Wg (by omega)];refine cE ?_;simp +contextual -implicitDefEqProofs (maxSteps:=10^7) only[go_sem,seval,↓gZ,JU,w,aa]
 ·refine cE ?_;simp +contextual -implicitDefEqProofs (maxSteps:=10^7) only[go_sem,seval,↓gZ,JU,w,aa];refine LO (α:=Nat×Int) (fun a=>[(5,.d (J (a.1:Int))),(1,.d (J a.2))]) (fun _=>[]) (fun a=>a.1≤ks.length∧0≤a.2∧a.2≤left∧szV left (nL ks)=szV a.2 (ZA (fun p:Ze=>p.nodes-1) (ks.drop a.1))) (fun a=>ks.length-a.1) (0,left-ks.length) ⟨by simp,by simp only;omega,by simp only;omega,by simp only[List.drop_zero];unfold szV;split<;>split<;>omega⟩ ?_;intro⟨k,m⟩ ⟨hk1,hm0,hml,hp⟩ ih2;simp only at hk1 hm0 hml hp ih2 ⊢;by_cases ad:k<ks.length
  ·obtain⟨x,hx⟩:=ZJ ad;have ab : (k:Int)<(ks.length:Int):=by omega
   have w1:=Zq (k:=k) (by omega);have e1:=ih x (Ke hx) m hm0 (by omega);rw[ZnG hx] at hp;obtain⟨o,a,q,t,ae⟩:=x;rw[Ze.enc_mk] at e1;generalize (Ze.mk o a q t ae).nodes-1=nx at e1 hp;by_cases hy:(nx:Int)≤m
   ·rw[Vx hy] at e1;have af:¬m-(nx:Int)<0:=by omega
    simp +contextual -implicitDefEqProofs (maxSteps:=10^7) only[go_sem,seval,↓gZ,ab,ad,hx,w1,e1,af];refine ih2 (k+1,m-nx) _ ⟨by simp only;omega,by simp only;omega,by simp only;omega,?_⟩ (by simp only;omega) ?_
    ·rw[hp];simp only;unfold szV;split<;>split<;>omega
    ·simp +contextual -implicitDefEqProofs (maxSteps:=10^7) only[go_sem,seval,↓gZ]
   ·rw[Wg hy] at e1;rw[hp,Wg (by omega)];simp +contextual -implicitDefEqProofs (maxSteps:=10^7) only[go_sem,seval,↓gZ,ab,ad,hx,w1,e1]
  ·have:k=ks.length:=by omega
   subst this;rw[List.drop_length] at hp;rw[hp,Vx (by simp only[ZA];omega)];have hz:m-((ZA (fun p:Ze=>p.nodes-1) []:Nat):Int)=m:=by simp[ZA]
   rw[hz];simp +contextual -implicitDefEqProofs (maxSteps:=10^7) only[go_sem,seval,↓gZ]
theorem Zfh:∀ (n:Nat) (p:Ze),p.nodes≤n→p.ok→∀ left:Int,0≤left→left≤1048576→Zh Xs Ms YJ [.d p.enc,(.d (J left))] []=some ((.d (J (szV left (p.nodes-1)))),[])
 | 0,.mk o a p t ks,hn,_,_,_,_=>by simp[Ze.nodes] at hn
 | n+1,.mk o a p t ks,hn,hok,left,h0,hl=>by
  cases hok with
  | mk _ _ _ hk hks=>
   have e1:=Zmk ks hk (fun k aa=>by
    obtain⟨i,hi⟩:=Ly.1 aa;exact Zfh n k (WO hn hi) (hks k aa)) left h0 hl
   have ab:(Ze.mk o a p t ks).nodes-1=nL ks:=by simp only[Ze.nodes,nL];omega
   rw[ab,Ze.enc_mk];by_cases hy:((nL ks:Nat):Int)≤left
   ·rw[Vx hy] at e1 ⊢;have ad:¬left-((nL ks:Nat):Int)<0:=by omega
    generalize nL ks=m at *;refine cE ?_;simp +contextual -implicitDefEqProofs (maxSteps:=10^7) only[go_sem,seval,↓gZ,Zbq,e1,ad]
   ·rw[Wg hy] at e1 ⊢;refine cE ?_;simp +contextual -implicitDefEqProofs (maxSteps:=10^7) only[go_sem,seval,↓gZ,Zbq,e1]
theorem Zn1 (p:Ze) (aa:p.ok) (left:Int) (h0:0≤left) (hl:left≤1048576):Zh Xs Ms YJ [.d p.enc,(.d (J left))] []=some ((.d (J (szV left (p.nodes-1)))),[]):=Zfh _ p (Kg _) aa left h0 hl
def ZgM:D:=.agg [J 0,J 0,J 0,.bool false,.sl []]
theorem Zml (ks:List Ze) (hk:ks.length≤1048576) (ih:∀ k∈ks,∀ o a p t ab,k=.mk o a p t ab→Zh Xs Ms Xc [.d k.enc] []=some (.agg [(.d (J o)),(.d (J a)),(.d (J p)),(.d (.bool t)),.own 0],[.tree 5 5 (ab.map Ze.enc) none])) :
  Zh Xs Ms Ui [(.d (.sl (ks.map Ze.enc)))] []=some (.own 0,[.tree 5 5 (ks.map Ze.enc) none]):=by
 have hm:(ks.length:Int)*56≤140737488355328∧(ks.length:Int)≤140737488355328:=by omega
 refine cE ?_;simp +contextual -implicitDefEqProofs (maxSteps:=10^7) only[go_sem,seval,↓gZ,ZcL,hm,ZC];refine V2 Xs Ms (st0:=?st0) (α:=Nat) (fun k=>[(4,.d (J (k:Int)))]) (fun k=>[(0,.tree 5 5 (Jk Ze.enc ZgM ks k) none)]) (fun k=>k≤ks.length) (fun k=>ks.length-k) 0 ?hc (by omega) ?h0 ?step
 case hc=>simp +contextual -implicitDefEqProofs (maxSteps:=10^7) only[go_sem,seval,↓gZ]<;>exact rfl
 case h0=>rw[Zbm];rfl
 case step=>
  intro k af ag;have ah:=Zdj Ze.enc ZgM af;by_cases ad:k<ks.length
  ·obtain⟨x,hx⟩:=ZJ ad;have ae : (k:Int)<(ks.length:Int):=by omega
   have w1:=Zq (k:=k) (by omega);have aa:=Zdk (f:=Ze.enc) (z:=ZgM) hx;obtain⟨o,a,q,t,ab⟩:=x;have e1:=ih _ (Ke hx) o a q t ab rfl;rw[Ze.enc_mk] at e1 aa;have z1:=Zdl (f:=Ze.enc) (z:=ZgM) ad;have z2:ZgM.notSl=true:=rfl;have z3:ZgM.cells.length=5:=rfl;have z4:Xf ZgM 0 [J o,J a,J q,.bool t,.sl (ab.map Ze.enc)]=.agg [J o,J a,J q,.bool t,.sl (ab.map Ze.enc)]:=rfl;have z5:ZgM.isAgg=true:=rfl;simp +contextual -implicitDefEqProofs (maxSteps:=10^7) only[go_sem,seval,↓gZ,ae,ad,hx,w1,e1,ah,z1,z2,z3,z4,z5,aa];refine ag (k+1) _ (by omega) (by omega) ?_;simp +contextual -implicitDefEqProofs (maxSteps:=10^7) only[go_sem,seval,↓gZ,aa]
  ·have:k=ks.length:=by omega
   subst this;rw[Zdi];simp +contextual -implicitDefEqProofs (maxSteps:=10^7) only[go_sem,seval,↓gZ]
theorem Zfi:∀ (n:Nat) (p:Ze),p.nodes≤n→p.nodes≤1048577→∀ o a q t ks,p=.mk o a q t ks→Zh Xs Ms Xc [.d p.enc] []=some (.agg [(.d (J o)),(.d (J a)),(.d (J q)),(.d (.bool t)),.own 0],[.tree 5 5 (ks.map Ze.enc) none])
 | 0,.mk o a p t ks,hn,_,_,_,_,_,_,_=>by simp[Ze.nodes] at hn
 | n+1,.mk o a p t ks,hn,hb,o',a',q',t',ks',he=>by
  cases he;have hl:=Zmj ks;have aa : nL ks≤1048576:=by simp only[Ze.nodes] at hb;simp only[nL];omega
  have e1:=Zml ks (by omega) (fun k ab o1 a1 p1 t1 ad ae=>by
   obtain⟨i,hi⟩:=Ly.1 ab;have:=U7 hi;exact Zfi n k (WO hn hi) (by simp only[nL] at aa;omega) o1 a1 p1 t1 ad ae)
  rw[Ze.enc_mk];refine cE ?_;simp +contextual -implicitDefEqProofs (maxSteps:=10^7) only[go_sem,seval,↓gZ,Zeh,e1]
theorem Zn2 (o a q:Int) (t:Bool) (ks:List Ze) (h:nL ks≤1048576):Zh Xs Ms Xc [.d (.agg [J o,J a,J q,.bool t,.sl (ks.map Ze.enc)])] []=some (.agg [(.d (J o)),(.d (J a)),(.d (J q)),(.d (.bool t)),.own 0],[.tree 5 5 (ks.map Ze.enc) none]):=by
 have:=Zfi _ (.mk o a q t ks) (Kg _) (by simp only[Ze.nodes,nL] at h ⊢;omega) o a q t ks rfl
 rwa [Ze.enc_mk] at this
theorem Zmm (ks:List Ze) (hk:ks.length≤1048576) (ih:∀ k∈ks,Zh Xs Ms YL [.d k.enc,.d k.enc] []=some ((.d (.bool true)),[])) :
  Zh Xs Ms Uj [(.d (.sl (ks.map Ze.enc))),(.d (.sl (ks.map Ze.enc)))] []=some ((.d (.bool true)),[]):=by
 refine cE ?_;simp +contextual -implicitDefEqProofs (maxSteps:=10^7) only[go_sem,seval,↓gZ,ZcM];refine LO (α:=Nat) (fun k=>[(5,.d (J (k:Int)))]) (fun _=>[]) (fun k=>k≤ks.length) (fun k=>ks.length-k) 0 (by omega) ?_;intro k ae ad;by_cases ab:k<ks.length
 ·obtain⟨x,hx⟩:=ZJ ab;have aa : (k:Int)<(ks.length:Int):=by omega
  have w1:=Zq (k:=k) (by omega);have e1:=ih x (Ke hx);obtain⟨o,a,q,t,af⟩:=x;rw[Ze.enc_mk] at e1;simp +contextual -implicitDefEqProofs (maxSteps:=10^7) only[go_sem,seval,↓gZ,aa,ab,hx,w1,e1];refine ad (k+1) _ (by omega) (by omega) ?_;simp +contextual -implicitDefEqProofs (maxSteps:=10^7) only[go_sem,seval,↓gZ]
 ·have:k=ks.length:=by omega
  subst this;simp +contextual -implicitDefEqProofs (maxSteps:=10^7) only[go_sem,seval,↓gZ]
theorem Zfj:∀ (n:Nat) (p:Ze),p.nodes≤n→p.nodes≤1048577→Zh Xs Ms YL [.d p.enc,.d p.enc] []=some ((.d (.bool true)),[])
 | 0,.mk o a p t ks,hn,_=>by simp[Ze.nodes] at hn
 | n+1,.mk o a p t ks,hn,hb=>by
  have hl:=Zmj ks;have aa : nL ks≤1048576:=by simp only[Ze.nodes] at hb;simp only[nL];omega
  have e1:=Zmm ks (by omega) (fun k ab=>by
   obtain⟨i,hi⟩:=Ly.1 ab;have:=U7 hi;exact Zfj n k (WO hn hi) (by simp only[nL] at aa;omega))
  rw[Ze.enc_mk];refine cE ?_;simp +contextual -implicitDefEqProofs (maxSteps:=10^7) only[go_sem,seval,↓gZ,Zej,e1,bNe,bne_self_eq_false]
theorem ZjO (o a q:Int) (t:Bool) (ks:List Ze) (h:nL ks≤1048576):Zh Xs Ms YL [.d (.agg [J o,J a,J q,.bool t,.sl (ks.map Ze.enc)]),.d (.agg [J o,J a,J q,.bool t,.sl (ks.map Ze.enc)])] []=some ((.d (.bool true)),[]):=by
 have:=Zfj _ (.mk o a q t ks) (Kg _) (by simp only[Ze.nodes,nL] at h ⊢;omega)
 rwa [Ze.enc_mk] at this
mutual
def Zpv:Ze→Int→Ze
 | .mk _ _ _ _ ks,k=>.mk k (k+1) (k+1+1) (decide ((k+1+1+1).tmod 3=0)) (ZdK ks (k+1+1+1+1))
def ZdK:List Ze→Int→List Ze
 | [],_=>[]
 | p :: r,k=>Zpv p k :: ZdK r (k+((4*p.nodes:Nat):Int))
end
def plC (p:Ze):Nat:=4*p.nodes
theorem Zi1:∀ (l:List Ze) (k:Int),ZdK l k=Zaa Zpv plC l k
 | [],_=>by rw[ZdK];rfl
 | p :: r,k=>by rw[ZdK,Zaa,Zi1 r];rfl
theorem Zlh:∀ l:List Ze,ZA plC l=4*nL l
 | []=>rfl
 | p :: r=>by rw[ZA,Zlh r];simp only[plC,nL,Ze.nodes.nodesL];omega
theorem Zi2 (ks:List Ze) (hk:nL ks≤4194304) (ih:∀ x∈ks,∀ o a p t kk,x=.mk o a p t kk→∀ K:Int,0≤K→K+((4*nL kk:Nat):Int)≤281474976710656→Zh Xs Ms ZQ [.own 0,(.d (J K))] [.tree 5 5 (kk.map Ze.enc) none]=some ((.d (J (K+((4*nL kk:Nat):Int)))),[.tree 5 5 ((ZdK kk K).map Ze.enc) none])) (k:Int) (h0:0≤k) (h1:k+((4*nL ks:Nat):Int)≤281474976710656) :
  Zh Xs Ms ZQ [.own 0,(.d (J k))] [.tree 5 5 (ks.map Ze.enc) none]=some ((.d (J (k+((4*nL ks:Nat):Int)))),[.tree 5 5 ((ZdK ks k).map Ze.enc) none]):=by
 have af:=Zlh ks;have am:=Zmj ks;refine cE ?_;simp +contextual -implicitDefEqProofs (maxSteps:=10^7) only[go_sem,seval,↓gZ,Zae];refine V2 Xs Ms (st0:=?st0) (α:=Nat) (fun i=>[(5,.d (J (i:Int))),(1,.d (J (k+(ZA plC (ks.take i):Nat))))]) (fun i=>[(0,.tree 5 5 ((ZfZ Zpv plC k ks i).map Ze.enc) none)]) (fun i=>i≤ks.length) (fun i=>ks.length-i) 0 ?hc (by omega) ?h0 ?step
 case hc=>simp +contextual -implicitDefEqProofs (maxSteps:=10^7) only[go_sem,seval,↓gZ]<;>exact rfl
 case h0=>simp only[Zlf,LR,ZA,Lj,LL];rfl
 case step=>
  intro i hi ag;have ah:=ZnU Zpv plC k hi;have an:=X5 plC ks i;by_cases ad:i<ks.length
  ·obtain⟨x,hx⟩:=ZJ ad;have aa : (i:Int)<(ks.length:Int):=by omega
   have w1:=Zq (k:=i) (by omega);have hg:=ZnV Zpv plC k hx;have hs:=Zle Ze.enc Zpv plC k hx;have ai:=Zee (c:=plC) hx;have aj:=X5 plC ks (i+1);have ak:=ih x (Ke hx);obtain⟨o,a,p,t,kk⟩:=x;have al:plC (.mk o a p t kk)=4+4*nL kk:=by simp only[plC,Ze.nodes,nL];omega
   have ae:k+(ZA plC (ks.take (i+1)):Nat)=k+(ZA plC (ks.take i):Nat)+1+1+1+1+((4*nL kk:Nat):Int):=by rw[ai,al];push_cast;omega
   generalize hK:k+(ZA plC (ks.take i):Nat)=K at hs ae ⊢;have e1:=ak o a p t kk rfl (K+1+1+1+1) (by omega) (by omega);have v1:=wi (K+1) (by omega) (by omega);have v2:=wi (K+1+1) (by omega) (by omega);have v3:=wi (K+1+1+1) (by omega) (by omega);have v4:=wi (K+1+1+1+1) (by omega) (by omega);simp only[Zpv,Ze.enc_mk] at hs;generalize nL kk=nk at *;simp +contextual -implicitDefEqProofs (maxSteps:=10^7) only[go_sem,seval,↓gZ,aa,ad,hg,w1,ah,v1,v2,v3,v4,e1,List.length_set,KO,List.set_set];refine ag (i+1) _ (by omega) (by omega) ?_;simp +contextual -implicitDefEqProofs (maxSteps:=10^7) only[go_sem,seval,↓gZ,hs,ae]
  ·have:i=ks.length:=by omega
   subst this;rw[ZnW,List.take_length,af,← Zi1];have ab:(ZdK ks k).length=ks.length:=by rw[Zi1,Jm]
   generalize nL ks=nk at *;simp +contextual -implicitDefEqProofs (maxSteps:=10^7) only[go_sem,seval,↓gZ,ab]
theorem ZbP:∀ (n:Nat) (ks:List Ze),nL ks≤n→nL ks≤4194304→∀ k:Int,0≤k→k+((4*nL ks:Nat):Int)≤281474976710656→Zh Xs Ms ZQ [.own 0,(.d (J k))] [.tree 5 5 (ks.map Ze.enc) none]=some ((.d (J (k+((4*nL ks:Nat):Int)))),[.tree 5 5 ((ZdK ks k).map Ze.enc) none])
 | n,ks,hn,hb,k,h0,h1=>Zi2 ks hb (fun x hx o a p t kk he K g0 g1=>by
   obtain⟨i,hi⟩:=Ly.1 hx;have hy:=U7 hi;subst he;have aa:nL kk<nL ks:=by simp only[Ze.nodes,nL] at hy ⊢;omega
   match n,hn with
   | 0,hn=>omega
   | n+1,hn=>exact ZbP n kk (by omega) (by omega) K g0 (by omega)) k h0 h1
theorem ZjP (o a p:Int) (t:Bool) (ks:List Ze) (hk:nL ks≤4194304) (k:Int) (h0:0≤k) (h1:k≤1099511627776):Zh Xs Ms Qi [.agg [(.d (J o)),(.d (J a)),(.d (J p)),(.d (.bool t)),.own 0],(.d (J k))] [.tree 5 5 (ks.map Ze.enc) none]=some ((.d (J (k+((4*nL ks:Nat):Int)))),[.tree 5 5 ((ZdK ks k).map Ze.enc) none]):=by
 have e1:=ZbP _ ks (Kg _) hk k h0 (by omega);generalize nL ks=nk at *;refine cE ?_;simp +contextual -implicitDefEqProofs (maxSteps:=10^7) only[go_sem,seval,↓gZ,Zbr,e1]
theorem VSt_sm {l:List Zf} (h:VSt l):l.length≤20∧∀ x∈l,ZcF x≤6:=
 ⟨h.1,fun x hx=>(YY h.2 x hx).1.2.2.2.2.2.2⟩
theorem Zsi {l:List Zf} {n:Int} {k:Zz} {p:Ze} {Zg:Int} {R:List Zf} (h:Zfg l n k p Zg=some R):R.length≤20∧∀ x∈R,ZcF x≤6:=by
 unfold Zfg at h;split at h
 ·split at h
  ·split at h
   ·rename_i hc;cases h;exact VSt_sm hc.2
   ·cases h
  ·cases h
 ·cases h
theorem ZcG (l:List Zf) (aa:Int) (k:Zz) (p:Ze) (Zg:Int) (hq:l.length≤maxLen∧∀ x∈l,x.ok) (hk:k.ok) (hp:p.ok):Zh Xs Ms Q4 [(.d (.sl (l.map Zf.enc))),(.d (J aa)),.d k.enc,.d p.enc,(.d (J Zg))] []=some ((.d (.bool true)),[]):=by
 obtain⟨kW,kH,kP⟩:=k;obtain⟨po,pa,pp,pt,pk⟩:=p;have e1:=ZjK l hq.1 (fun x hx=>(hq.2 x hx).2.2.2.1) 1048576 (by decide) (by decide);rw[Ze.enc_mk];by_cases s1:((l.length+ZA ZcF l:Nat):Int)≤1048576
 ·rw[Vx s1] at e1;have y1:¬(1048576:Int)-((l.length+ZA ZcF l:Nat):Int)<0:=by omega
  have ab:∀ x∈l,ZcF x≤1048576:=fun x hx=>by have:=Zlg (f:=ZcF) hx;omega
  have hb:=Zf0 l;have ad:l.length≤1048576∧ZA ZcF l≤1048576:=by omega
  generalize hm:((l.length+ZA ZcF l:Nat):Int)=m at e1 s1 y1;have af:0≤m:=by omega
  have e2:=ZnY kW kH kP hk.2.2.1 (1048576-m) (by omega) (by omega);by_cases s2:(kP.length:Int)≤1048576-m
  ·rw[Vx s2] at e2;have y2:¬(1048576:Int)-m-(kP.length:Int)<0:=by omega
   have e3:=Zn1 _ hp (1048576-m-kP.length) (by omega) (by omega);have ae:(Ze.mk po pa pp pt pk).nodes-1=nL pk:=by simp only[Ze.nodes,nL];omega
   rw[Ze.enc_mk,ae] at e3;by_cases s3:((nL pk:Nat):Int)≤1048576-m-kP.length
   ·rw[Vx s3] at e3;have y3:¬(1048576:Int)-m-(kP.length:Int)-((nL pk:Nat):Int)<0:=by omega
    have t1:=ZjL l ad.1 ab;have t2:=ZnZ kW kH kP (by omega);have t3:=Zn2 po pa pp pt pk (by omega);have c1:=ZjG l aa kW kH kP (.mk po pa pp pt pk) Zg ad.1 (fun x hx=>⟨ab x hx,(hq.2 x hx).2.1,(hq.2 x hx).2.2.1⟩) (by omega);have c2:=ZjF l aa kW kH kP (.mk po pa pp pt pk) Zg;have q1:=Uu l (by omega) fun x hx=>by have:=ab x hx;omega
    have q2:=ZjM kW kH kP (by omega);have q3:=ZjO po pa pp pt pk (by omega);have m1:=ZbN l (by omega) (by omega) 1 (by decide) (by decide);have m2:=ZjN kW kH kP (by omega) (1+(ZA pcN l:Nat)) (by omega) (by omega);have m3:=ZjP po pa pp pt pk (by omega) (1+(ZA pcN l:Nat)+((4*kP.length:Nat):Int)) (by omega) (by omega);have y4:¬1+(ZA pcN l:Nat)+((4*kP.length:Nat):Int)+((4*nL pk:Nat):Int)<0:=by omega
    rw[Ze.enc_mk] at c1 c2;generalize hR:Zfg l aa ⟨kW,kH,kP⟩ (.mk po pa pp pt pk) Zg=RR at c1 c2;generalize nL pk=np at *;generalize (1:Int)+(ZA pcN l:Nat)=g1 at *;generalize g1+((4*kP.length:Nat):Int)=g2 at *;generalize g2+((4*np:Nat):Int)=g3 at *;cases RR with
    | none=>
     unfold Zmc at c1;unfold Zmd at c2;have q4:=Uu [] (by simp) fun x hx=>by cases hx
     have h4:=ZbO [] (by decide) (by decide) 1 (by decide) (by decide);have m4:=Zf1 1;simp only[LQ,ZA,Zqf,Zaa,Lj,LL] at h4 q4;refine cE ?_;simp +contextual -implicitDefEqProofs (maxSteps:=10^7) only[go_sem,seval,↓gZ,Qo,e1,y1,e2,y2,e3,y3,t1,t2,t3,c1,c2,q1,q2,q3,q4,m1,m2,m3,y4,m4,h4,bNe,bne_self_eq_false]
    | some R=>
     unfold Zmc at c1;unfold Zmd at c2;obtain⟨r1,r2⟩:=Zsi hR;have q4:=Uu R (by omega) fun x hx=>by have:=r2 x hx;omega
     have b1:=ZnX r2;have b2:=Zf0 R;have h4:=ZbO R (by omega) (by omega) 1 (by decide) (by decide);have y5:¬(1:Int)+(ZA pcN R:Nat)<0:=by omega
     have m4:=ZbN R (by omega) (by omega) 1 (by decide) (by decide);generalize (1:Int)+(ZA pcN R:Nat)=g4 at *;generalize Zqf R 1=R2 at *;refine cE ?_;simp +contextual -implicitDefEqProofs (maxSteps:=10^7) only[go_sem,seval,↓gZ,Qo,e1,y1,e2,y2,e3,y3,t1,t2,t3,c1,c2,q1,q2,q3,q4,m1,m2,m3,y4,m4,h4,y5,bNe,bne_self_eq_false]
   ·rw[Wg s3] at e3;refine cE ?_;simp +contextual -implicitDefEqProofs (maxSteps:=10^7) only[go_sem,seval,↓gZ,Qo,e1,y1,e2,y2,e3]
  ·rw[Wg s2] at e2;refine cE ?_;simp +contextual -implicitDefEqProofs (maxSteps:=10^7) only[go_sem,seval,↓gZ,Qo,e1,y1,e2]
 ·rw[Wg s1] at e1;refine cE ?_;simp +contextual -implicitDefEqProofs (maxSteps:=10^7) only[go_sem,seval,↓gZ,Qo,e1]
end Go.Proofs.Ytnachaiejoflhaa
